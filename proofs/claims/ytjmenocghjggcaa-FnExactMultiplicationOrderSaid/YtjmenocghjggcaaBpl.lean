/-
Contracts of functions of the given program, by the abstract walk.
-/
import Derived.Test.YtjmenocghjggcaaAbsY
import Derived.Test.YtjmenocghjggcaaBsp
namespace Go.Proofs.Ytjmenocghjggcaa
open Go Go.Abs
set_option linter.unusedVariables false
set_option linter.unusedSectionVars false
set_option linter.unusedSimpArgs false
set_option maxRecDepth 100000
/-! the program's group: what look and add make, plain -/
structure GS where
  gl : Nat → List (List Int)
  b : List Int
  h : List Bool
def hasG (st : GS) : HasT := fun k j => st.h.getD (0 + k * 10 + j * 1) false
def byG (st : GS) : ByT := fun k j => (st.b.drop (0 + k * 100 + j * 10)).take 10
def putG (k j : Nat) (p : List Int) (st : GS) : GS := ⟨st.gl, spl st.b (0 + k * 100 + j * 10) p, st.h.set (0 + k * 10 + j * 1) true⟩
def appG (k : Nat) (p : List Int) (st : GS) : GS := ⟨fun i => if i = k then st.gl k ++ [p] else st.gl i, st.b, st.h⟩
def sftG (N : Nat) (st : GS) (k : Nat) (p : List Int) : Bool := sft N (hasG st) (byG st) (N - k) p
/-- look (false) and add (true) -/
def goF (N : Nat) : Nat → Bool → Nat → List Int → GS → GS
  | 0, _, _, _, st => st
  | f + 1, true, k, p, st => (List.range N).foldl (fun s j => if hasG s k j = true then goF N f false k (th N (byG s k j) p) s else s) (appG k p st)
  | f + 1, false, k, p, st =>
    if hasG st k (pl p k) = true then
      if sftG N st (k + 1) (th N p (bk N (byG st k (pl p k)))) = true then st else goF N f true (k + 1) (th N p (bk N (byG st k (pl p k)))) st
    else (st.gl k).foldl (fun s q => goF N f false k (th N p q) s) (putG k (pl p k) p st)
structure GOk (N : Nat) (L0 : List Int → Prop) (st : GS) : Prop where
  hl : st.h.length = 100
  bb : Bytes 1000 st.b
  id_ : ∀ k, k < N → hasG st k k = true ∧ byG st k k = idL N
  ok : ∀ k, k < N → ∀ j, j < 10 → hasG st k j = true → j < N ∧ Gen N (InL (st.gl k)) (byG st k j) ∧ pl (byG st k j) k = j
  mv : ∀ k s, s ∈ st.gl k → Vp N s ∧ ∀ i, i < k → pl s i = i
  top : ∀ s, s ∈ st.gl 0 → L0 s
  down : ∀ k s, s ∈ st.gl (k + 1) → Gen N (InL (st.gl k)) s
/-- how many numbers are reached -/
noncomputable def RG (st : GS) : Nat := cntP (fun i => st.h.getD i false = true) (List.range 100)
theorem RG_le {st : GS} : RG st ≤ 100 := by have := cntP_le (P := fun i => st.h.getD i false = true) (l := List.range 100); rwa [List.length_range] at this
def ExtG (st st' : GS) : Prop := ∀ k, k < 10 → ∀ j, j < 10 → hasG st k j = true → hasG st' k j = true ∧ byG st' k j = byG st k j
theorem ExtG.refl {st : GS} : ExtG st st := fun _ _ _ _ h => ⟨h, rfl⟩
theorem ExtG.trans {a b c : GS} (h : ExtG a b) (h' : ExtG b c) : ExtG a c := fun k hk j hj hh => by
  obtain ⟨h1, h2⟩ := h k hk j hj hh
  obtain ⟨h3, h4⟩ := h' k hk j hj h1
  exact ⟨h3, h4.trans h2⟩
theorem hasG_at {st : GS} {i : Nat} (h : i < 100) : st.h.getD i false = hasG st (i / 10) (i % 10) := by
  unfold hasG; congr 1; omega
theorem ExtG.r_le {st st' : GS} (h : ExtG st st') : RG st ≤ RG st' := by
  have key : ∀ l : List Nat, (∀ i ∈ l, i < 100) → cntP (fun i => st.h.getD i false = true) l ≤ cntP (fun i => st'.h.getD i false = true) l := by
    intro l
    induction l with
    | nil => intro _; exact Nat.le_refl _
    | cons a l ih =>
      intro hl
      have := ih fun i hi => hl i (by simp [hi])
      have ha := hl a (by simp)
      have hm : st.h.getD a false = true → st'.h.getD a false = true := fun e => by
        rw [hasG_at ha] at e ⊢
        exact (h _ (by omega) _ (by omega) e).1
      rcases Classical.em (st.h.getD a false = true) with h1 | h1
      · rw [cntP_cons.1 h1, cntP_cons.1 (hm h1)]; omega
      · rcases Classical.em (st'.h.getD a false = true) with h2 | h2
        · rw [cntP_cons.2 h1, cntP_cons.1 h2]; omega
        · rw [cntP_cons.2 h1, cntP_cons.2 h2]; exact this
  exact key _ fun i hi => List.mem_range.1 hi
/-- more is reached, if anything is new -/
theorem ExtG.r_lt {st st' : GS} (h : ExtG st st') {k j : Nat} (hk : k < 10) (hj : j < 10) (h1 : hasG st k j = false) (h2 : hasG st' k j = true) : RG st < RG st' := by
  have key : ∀ l : List Nat, (∀ i ∈ l, i < 100) → k * 10 + j ∈ l → cntP (fun i => st.h.getD i false = true) l < cntP (fun i => st'.h.getD i false = true) l := by
    intro l
    induction l with
    | nil => intro _ h; cases h
    | cons a l ih =>
      intro hl hm
      have hle : cntP (fun i => st.h.getD i false = true) l ≤ cntP (fun i => st'.h.getD i false = true) l := by
        have key2 : ∀ l : List Nat, (∀ i ∈ l, i < 100) → cntP (fun i => st.h.getD i false = true) l ≤ cntP (fun i => st'.h.getD i false = true) l := by
          intro l
          induction l with
          | nil => intro _; exact Nat.le_refl _
          | cons a l ih =>
            intro hl
            have := ih fun i hi => hl i (by simp [hi])
            have ha := hl a (by simp)
            have hm : st.h.getD a false = true → st'.h.getD a false = true := fun e => by
              rw [hasG_at ha] at e ⊢
              exact (h _ (by omega) _ (by omega) e).1
            rcases Classical.em (st.h.getD a false = true) with h1 | h1
            · rw [cntP_cons.1 h1, cntP_cons.1 (hm h1)]; omega
            · rcases Classical.em (st'.h.getD a false = true) with h2 | h2
              · rw [cntP_cons.2 h1, cntP_cons.1 h2]; omega
              · rw [cntP_cons.2 h1, cntP_cons.2 h2]; exact this
        exact key2 l fun i hi => hl i (by simp [hi])
      rcases Classical.em (a = k * 10 + j) with e | e
      · subst e
        have e1 : (k * 10 + j) / 10 = k := by omega
        have e2 : (k * 10 + j) % 10 = j := by omega
        have n1 : ¬ st.h.getD (k * 10 + j) false = true := by rw [hasG_at (by omega), e1, e2, h1]; simp
        have n2 : st'.h.getD (k * 10 + j) false = true := by rw [hasG_at (by omega), e1, e2, h2]
        rw [cntP_cons.2 n1, cntP_cons.1 n2]; omega
      · have := ih (fun i hi => hl i (by simp [hi])) (by
          rcases List.mem_cons.1 hm with h | h
          · exact absurd h.symm e
          · exact h)
        have ha := hl a (by simp)
        have hm : st.h.getD a false = true → st'.h.getD a false = true := fun e => by
          rw [hasG_at ha] at e ⊢
          exact (h _ (by omega) _ (by omega) e).1
        rcases Classical.em (st.h.getD a false = true) with h1 | h1
        · rw [cntP_cons.1 h1, cntP_cons.1 (hm h1)]; omega
        · rcases Classical.em (st'.h.getD a false = true) with h2 | h2
          · rw [cntP_cons.2 h1, cntP_cons.1 h2]; omega
          · rw [cntP_cons.2 h1, cntP_cons.2 h2]; exact this
  exact key _ (fun i hi => List.mem_range.1 hi) (List.mem_range.2 (by omega))
def Cl (N : Nat) (st : GS) (i : Nat) : Prop := ∀ j, j < N → hasG st i j = true → ∀ s, s ∈ st.gl i → sftG N st i (th N (byG st i j) s) = true
structure Grow (N : Nat) (L0 : List Int → Prop) (k : Nat) (st st' : GS) : Prop where
  ok : GOk N L0 st'
  ext : ExtG st st'
  same : ∀ i, i ≤ k → st'.gl i = st.gl i
  low : ∀ i, i < k → ∀ j, j < 10 → hasG st' i j = hasG st i j
  pre : ∀ i, ∃ X, st'.gl i = st.gl i ++ X
  cl : ∀ i, k < i → i < N → Cl N st' i
  len : ∀ i, k < i → (st'.gl i).length ≤ RG st'
  new : ∀ j, j < N → hasG st' k j = true → hasG st k j = false → ∀ s, s ∈ st.gl k → sftG N st' k (th N (byG st' k j) s) = true
structure Added (N : Nat) (L0 : List Int → Prop) (k : Nat) (p : List Int) (st st' : GS) : Prop where
  ok : GOk N L0 st'
  ext : ExtG st st'
  same : ∀ i, i < k → st'.gl i = st.gl i
  mkk : st'.gl k = st.gl k ++ [p]
  low : ∀ i, i < k → ∀ j, j < 10 → hasG st' i j = hasG st i j
  pre : ∀ i, ∃ X, st'.gl i = st.gl i ++ X
  cl : ∀ i, k ≤ i → i < N → Cl N st' i
  len : ∀ i, k ≤ i → (st'.gl i).length ≤ RG st'
  sf : sftG N st' k p = true
section
variable {N : Nat} (hN : N ≤ 10) {L0 : List Int → Prop}
include hN
theorem gen_keeps {S : List Int → Prop} {k : Nat} (hk : k ≤ N) (hS : ∀ s, S s → Vp N s ∧ ∀ i, i < k → pl s i = i) {p : List Int} (h : Gen N S p) : Vp N p ∧ ∀ i, i < k → pl p i = i := by
  refine ⟨h.vp hN fun s hs => (hS s hs).1, ?_⟩
  induction h with
  | one => intro i hi; exact pl_id hN (by omega)
  | step _ hs ih => exact fix_th hN hk ih (hS _ hs).2
theorem GOk.by_ {st : GS} (h : GOk N L0 st) {k j : Nat} (hk : k < N) (hj : j < 10) (hh : hasG st k j = true) : Vp N (byG st k j) ∧ ∀ i, i < k → pl (byG st k j) i = i :=
  gen_keeps hN (by omega) (h.mv k) (h.ok k hk j hj hh).2.1
theorem GOk.chain {st : GS} (h : GOk N L0 st) : Chain N (hasG st) (byG st) :=
  ⟨fun k hk => h.id_ k hk, fun k hk j hj hh => ⟨(h.by_ hN hk (by omega) hh).1, (h.by_ hN hk (by omega) hh).2, (h.ok k hk j (by omega) hh).2.2⟩⟩
theorem sft_ext {has has' : HasT} {by_ by' : ByT} (hc : Chain N has by_) (he : ∀ k, k < N → ∀ j, j < N → has k j = true → has' k j = true ∧ by' k j = by_ k j) : ∀ d, d ≤ N → ∀ p, Vp N p → (∀ i, i < N - d → pl p i = i) → sft N has by_ d p = true → sft N has' by' d p = true := by
  intro d
  induction d with
  | zero => intro _ _ _ _ _; rfl
  | succ d ih =>
    intro hd p hp hf h
    rw [sft, Bool.and_eq_true] at h ⊢
    have hk : N - (d + 1) < N := by omega
    obtain ⟨e1, e2⟩ := he _ hk _ (hp.lt hN hk) h.1
    obtain ⟨r1, r2⟩ := hc.rest hN hk hp hf h.1
    exact ⟨e1, by rw [e2]; exact ih (by omega) _ r1 (fun i hi => r2 i (by omega)) h.2⟩
theorem GOk.mono {st st' : GS} (h : GOk N L0 st) (he : ExtG st st') {k : Nat} (hk : k ≤ N) {p : List Int} (hp : Vp N p) (hf : ∀ i, i < k → pl p i = i) (hs : sftG N st k p = true) : sftG N st' k p = true :=
  sft_ext hN (h.chain hN) (fun i hi j hj hh => he i (by omega) j (by omega) hh) (N - k) (by omega) p hp (fun i hi => hf i (by omega)) hs
/-- if more sifts then more is reached -/
theorem GOk.more {st st' : GS} (h : GOk N L0 st') (he : ExtG st st') {k : Nat} (hk : k ≤ N) {p : List Int} (hp : Vp N p) (hf : ∀ i, i < k → pl p i = i) (h1 : sftG N st k p = false) (h2 : sftG N st' k p = true) : RG st < RG st' := by
  apply Classical.byContradiction
  intro hno
  have hs : ∀ i, i < N → ∀ j, j < N → hasG st' i j = true → hasG st i j = true ∧ byG st i j = byG st' i j := fun i hi j hj hh => by
    cases h3 : hasG st i j
    · exact absurd (he.r_lt (by omega) (by omega) h3 hh) hno
    · exact ⟨rfl, (he i (by omega) j (by omega) h3).2.symm⟩
  have := sft_ext hN (h.chain hN) hs (N - k) (by omega) p hp (fun i hi => hf i (by omega)) h2
  unfold sftG at h1
  rw [h1] at this; cases this
theorem sftG_lvl {st : GS} {k : Nat} (hk : k < N) (p : List Int) : sftG N st k p = (hasG st k (pl p k) && sftG N st (k + 1) (th N p (bk N (byG st k (pl p k))))) := sft_lvl hN hk p
theorem Grow.refl {k : Nat} {st : GS} (h : GOk N L0 st) (hc : ∀ i, k < i → i < N → Cl N st i) (hl : ∀ i, k < i → (st.gl i).length ≤ RG st) : Grow N L0 k st st :=
  ⟨h, ExtG.refl, fun _ _ => rfl, fun _ _ _ _ => rfl, fun _ => ⟨[], by simp⟩, hc, hl, fun j _ h1 h2 => by rw [h1] at h2; cases h2⟩
theorem Grow.trans {k : Nat} (hk : k < N) {a b c : GS} (h : Grow N L0 k a b) (h' : Grow N L0 k b c) : Grow N L0 k a c := by
  refine ⟨h'.ok, h.ext.trans h'.ext, fun i hi => (h'.same i hi).trans (h.same i hi), fun i hi j hj => (h'.low i hi j hj).trans (h.low i hi j hj), fun i => ?_, h'.cl, h'.len, fun j hj h1 h2 s hs => ?_⟩
  · obtain ⟨X, hX⟩ := h.pre i
    obtain ⟨Y, hY⟩ := h'.pre i
    exact ⟨X ++ Y, by rw [hY, hX, List.append_assoc]⟩
  · cases h3 : hasG b k j
    · exact h'.new j hj h1 h3 s (by rw [h.same k (Nat.le_refl k)]; exact hs)
    · have h4 := h.new j hj h3 h2 s hs
      have hb := h.ok.by_ hN hk (by omega) h3
      have hsv := h.ok.mv k s (by rw [h.same k (Nat.le_refl k)]; exact hs)
      rw [(h'.ext k (by omega) j (by omega) h3).2]
      exact h.ok.mono hN h'.ext (by omega) (hb.1.th hN hsv.1) (fix_th hN (by omega) hb.2 hsv.2) h4
end

/-! look and add keep what a group is, plain -/
theorem put_has {st : GS} {k j i l : Nat} {p : List Int} (hl : st.h.length = 100) (hk : k < 10) (hj : j < 10) (hi : i < 10) (hl2 : l < 10) : hasG (putG k j p st) i l = if i = k ∧ l = j then true else hasG st i l := by
  unfold hasG putG
  simp only
  rw [getD_setb (by omega)]
  by_cases h : i = k ∧ l = j
  · rw [if_pos h, if_pos (by omega)]
  · rw [if_neg h, if_neg (by omega)]
theorem put_by {st : GS} {k j i l : Nat} {p : List Int} (hb : st.b.length = 1000) (hp : p.length = 10) (hk : k < 10) (hj : j < 10) (hi : i < 10) (hl2 : l < 10) : byG (putG k j p st) i l = if i = k ∧ l = j then p else byG st i l := by
  have hle : 0 + k * 100 + j * 10 + p.length ≤ st.b.length := by omega
  unfold byG putG
  simp only
  have e1 : ((spl st.b (0 + k * 100 + j * 10) p).drop (0 + i * 100 + l * 10)).take 10 = if i = k ∧ l = j then p else (st.b.drop (0 + i * 100 + l * 10)).take 10 := by
    refine ext_getD ?_ fun m hm => ?_
    · rw [sub_length (by rw [spl_length hle]; omega)]
      split
      · exact hp.symm
      · rw [sub_length (by omega)]
    · rw [sub_length (by rw [spl_length hle]; omega)] at hm
      rw [getD_sub, if_pos hm, getD_spl hle]
      by_cases h : i = k ∧ l = j
      · rw [if_pos (by omega), if_pos h]; congr 1; omega
      · rw [if_neg (by omega), if_neg h, getD_sub, if_pos hm]
  exact e1
theorem bytes_spl1000 {b r : List Int} {o : Nat} (hb : Bytes 1000 b) (hr : Bytes 10 r) (ho : o + 10 ≤ 1000) : Bytes 1000 (spl b o r) := by
  have hle : o + r.length ≤ b.length := by rw [hb.len, hr.len]; exact ho
  refine ⟨by rw [spl_length hle]; exact hb.len, fun m => ?_⟩
  rw [getD_spl hle]
  split
  · exact hr.rng _
  · exact hb.rng _
section
variable {N : Nat} (hN : N ≤ 10) {L0 : List Int → Prop}
include hN
theorem GOk.put {st : GS} (h : GOk N L0 st) {k : Nat} {p : List Int} (hk : k < N) (hg : Gen N (InL (st.gl k)) p) (hh : hasG st k (pl p k) = false) : GOk N L0 (putG k (pl p k) p st) ∧ ExtG st (putG k (pl p k) p st) := by
  obtain ⟨hpv, hpf⟩ := gen_keeps hN (by omega) (h.mv k) hg
  have hj := hpv.lt hN hk
  have eh : ∀ i, i < 10 → ∀ l, l < 10 → hasG (putG k (pl p k) p st) i l = if i = k ∧ l = pl p k then true else hasG st i l := fun i hi l hl => put_has h.hl (by omega) (by omega) hi hl
  have eb : ∀ i, i < 10 → ∀ l, l < 10 → byG (putG k (pl p k) p st) i l = if i = k ∧ l = pl p k then p else byG st i l := fun i hi l hl => put_by h.bb.len hpv.by_.len (by omega) (by omega) hi hl
  have hne : ∀ i, i < 10 → ∀ l, l < 10 → hasG st i l = true → ¬(i = k ∧ l = pl p k) := fun i hi l hl h1 h2 => by
    rw [h2.1, h2.2, hh] at h1; cases h1
  refine ⟨⟨by unfold putG; rw [List.length_set]; exact h.hl, bytes_spl1000 h.bb hpv.by_ (by omega), fun i hi => ?_, fun i hi l hl h1 => ?_, h.mv, h.top, h.down⟩, fun i hi l hl h1 => ?_⟩
  · obtain ⟨h1, h2⟩ := h.id_ i hi
    have := hne i (by omega) i (by omega) h1
    rw [eh i (by omega) i (by omega), eb i (by omega) i (by omega), if_neg this, if_neg this]
    exact ⟨h1, h2⟩
  · rw [eh i (by omega) l hl] at h1
    rw [eb i (by omega) l hl]
    by_cases h2 : i = k ∧ l = pl p k
    · obtain ⟨rfl, rfl⟩ := h2
      rw [if_pos ⟨rfl, rfl⟩]
      exact ⟨hj, hg, rfl⟩
    · rw [if_neg h2] at h1 ⊢
      exact h.ok i hi l hl h1
  · have := hne i hi l hl h1
    rw [eh i hi l hl, eb i hi l hl, if_neg this, if_neg this]
    exact ⟨h1, rfl⟩
theorem GOk.app {st : GS} (h : GOk N L0 st) {k : Nat} {p : List Int} (hp : Vp N p) (hf : ∀ i, i < k → pl p i = i) (h0 : k = 0 → L0 p) (hd : ∀ k', k = k' + 1 → Gen N (InL (st.gl k')) p) : GOk N L0 (appG k p st) := by
  have hsub : ∀ i s, s ∈ st.gl i → s ∈ (appG k p st).gl i := fun i s hs => by
    show s ∈ if i = k then st.gl k ++ [p] else st.gl i
    split
    · rename_i e; subst e; exact List.mem_append_left _ hs
    · exact hs
  have hmem : ∀ i s, s ∈ (appG k p st).gl i → s ∈ st.gl i ∨ (i = k ∧ s = p) := fun i s hs => by
    have hs' : s ∈ if i = k then st.gl k ++ [p] else st.gl i := hs
    split at hs'
    · rename_i e; subst e
      rcases List.mem_append.1 hs' with h | h
      · exact .inl h
      · exact .inr ⟨rfl, List.mem_singleton.1 h⟩
    · exact .inl hs'
  have hmv : ∀ i s, s ∈ (appG k p st).gl i → Vp N s ∧ ∀ j, j < i → pl s j = j := fun i s hs => by
    rcases hmem i s hs with h1 | ⟨rfl, rfl⟩
    · exact h.mv i s h1
    · exact ⟨hp, hf⟩
  have hup : ∀ i q, Gen N (InL (st.gl i)) q → Gen N (InL ((appG k p st).gl i)) q := fun i q hq => hq.sub hN (fun s hs => (hmv i s hs).1) fun s hs => Gen.of hN (fun s hs => (hmv i s hs).1) (hsub i s hs)
  refine ⟨h.hl, h.bb, h.id_, fun i hi l hl h1 => ?_, hmv, fun s hs => ?_, fun i s hs => ?_⟩
  · obtain ⟨h2, h3, h4⟩ := h.ok i hi l hl h1
    exact ⟨h2, hup i _ h3, h4⟩
  · rcases hmem 0 s hs with h1 | ⟨e, rfl⟩
    · exact h.top s h1
    · exact h0 e.symm
  · rcases hmem (i + 1) s hs with h1 | ⟨e, rfl⟩
    · exact hup i s (h.down i s h1)
    · exact hup i _ (hd i e.symm)
end
structure LookPre (N : Nat) (L0 : List Int → Prop) (f k : Nat) (p : List Int) (st : GS) : Prop where
  kN : k < N
  mu : (100 - RG st) * 30 + 2 * (N - k) < f
  ok : GOk N L0 st
  gen : Gen N (InL (st.gl k)) p
  cl : ∀ i, k < i → i < N → Cl N st i
  len : ∀ i, k < i → (st.gl i).length ≤ RG st
  lk : (st.gl k).length ≤ 101
structure AddPre (N : Nat) (L0 : List Int → Prop) (f k : Nat) (p : List Int) (st : GS) : Prop where
  kN : k < N
  mu : (100 - RG st) * 30 + 2 * (N - k) + 1 < f
  ok : GOk N L0 st
  vp : Vp N p
  fix : ∀ i, i < k → pl p i = i
  top : k = 0 → L0 p
  gen : ∀ k', k = k' + 1 → Gen N (InL (st.gl k')) p
  cl : ∀ i, k ≤ i → i < N → Cl N st i
  len : ∀ i, k ≤ i → (st.gl i).length ≤ RG st
  no : sftG N st k p = false
def lookFold (N f k : Nat) (p : List Int) (ql : List (List Int)) (st : GS) : GS := ql.foldl (fun s q => goF N f false k (th N p q) s) st
def addFold (N f k : Nat) (p : List Int) (m : Nat) (st : GS) : GS := (List.range m).foldl (fun s j => if hasG s k j = true then goF N f false k (th N (byG s k j) p) s else s) st
theorem lookFold_snoc {N f k : Nat} {p q : List Int} {ql : List (List Int)} {st : GS} : lookFold N f k p (ql ++ [q]) st = goF N f false k (th N p q) (lookFold N f k p ql st) := by unfold lookFold; rw [List.foldl_append]; rfl
theorem addFold_succ {N f k m : Nat} {p : List Int} {st : GS} : addFold N f k p (m + 1) st = if hasG (addFold N f k p m st) k m = true then goF N f false k (th N (byG (addFold N f k p m st) k m) p) (addFold N f k p m st) else addFold N f k p m st := by
  unfold addFold; rw [List.range_succ, List.foldl_append]; rfl
theorem goF_look {N f k : Nat} {p : List Int} {st : GS} : goF N (f + 1) false k p st = if hasG st k (pl p k) = true then
      if sftG N st (k + 1) (th N p (bk N (byG st k (pl p k)))) = true then st else goF N f true (k + 1) (th N p (bk N (byG st k (pl p k)))) st
    else lookFold N f k p (st.gl k) (putG k (pl p k) p st) := rfl
theorem goF_add {N f k : Nat} {p : List Int} {st : GS} : goF N (f + 1) true k p st = addFold N f k p N (appG k p st) := rfl
def LookOk (N : Nat) (L0 : List Int → Prop) (f : Nat) : Prop := ∀ k p st, LookPre N L0 f k p st → Grow N L0 k st (goF N f false k p st) ∧ sftG N (goF N f false k p st) k p = true
def AddOk (N : Nat) (L0 : List Int → Prop) (f : Nat) : Prop := ∀ k p st, AddPre N L0 f k p st → Added N L0 k p st (goF N f true k p st)
section
variable {N : Nat} (hN : N ≤ 10) {L0 : List Int → Prop}
include hN
/-- the state in a round of look's loop -/
theorem look_fold {f : Nat} (ih : LookOk N L0 f) {k : Nat} {p : List Int} {st : GS} (hk : k < N) (hmu : (100 - RG st) * 30 + 2 * (N - k) < f) (hok : GOk N L0 st) (hg : Gen N (InL (st.gl k)) p) (hcl : ∀ i, k < i → i < N → Cl N st i) (hlen : ∀ i, k < i → (st.gl i).length ≤ RG st) (hlk : (st.gl k).length ≤ 101) :
    ∀ ql : List (List Int), (∀ q, q ∈ ql → q ∈ st.gl k) → (Grow N L0 k st (lookFold N f k p ql st) ∧ ∀ q, q ∈ ql → sftG N (lookFold N f k p ql st) k (th N p q) = true) ∧ ∀ q, q ∈ st.gl k → LookPre N L0 f k (th N p q) (lookFold N f k p ql st) := by
  obtain ⟨hpv, hpf⟩ := gen_keeps hN (by omega) (hok.mv k) hg
  have next : ∀ s, Grow N L0 k st s → ∀ q, q ∈ st.gl k → LookPre N L0 f k (th N p q) s := fun s hs q hq => by
    have := hs.ext.r_le
    refine ⟨hk, by omega, hs.ok, ?_, hs.cl, hs.len, by rw [hs.same k (Nat.le_refl k)]; exact hlk⟩
    rw [hs.same k (Nat.le_refl k)]
    exact hg.step hq
  have key : ∀ n (ql : List (List Int)), ql.length = n → (∀ q, q ∈ ql → q ∈ st.gl k) → Grow N L0 k st (lookFold N f k p ql st) ∧ ∀ q, q ∈ ql → sftG N (lookFold N f k p ql st) k (th N p q) = true := by
    intro n
    induction n with
    | zero =>
      intro ql hl _
      have : ql = [] := List.length_eq_zero_iff.1 hl
      subst this
      exact ⟨Grow.refl hN hok hcl hlen, fun q hq => absurd hq (by simp)⟩
    | succ n ihn =>
      intro ql hl hq
      have hne : ql ≠ [] := fun e => by rw [e] at hl; simp at hl
      have e := List.dropLast_concat_getLast hne
      generalize ql.dropLast = q0 at e
      generalize ql.getLast hne = q at e
      subst e
      obtain ⟨h1, h2⟩ := ihn q0 (by simpa using hl) fun x hx => hq x (by simp [hx])
      have hqm := hq q (by simp)
      rw [lookFold_snoc]
      obtain ⟨h3, h4⟩ := ih k (th N p q) _ (next _ h1 q hqm)
      refine ⟨h1.trans hN hk h3, fun x hx => ?_⟩
      rcases List.mem_append.1 hx with h | h
      · have hxm := hok.mv k x (hq x (by simp [h]))
        exact h1.ok.mono hN h3.ext (by omega) (hpv.th hN hxm.1) (fix_th hN (by omega) hpf hxm.2) (h2 x h)
      · rw [List.mem_singleton.1 h]; exact h4
  exact fun ql hq => ⟨key _ ql rfl hq, next _ (key _ ql rfl hq).1⟩
/-- the state in a round of add's loop -/
theorem add_fold {f : Nat} (ih : LookOk N L0 f) {k : Nat} {p : List Int} {st : GS} (hk : k < N) (hmu : (100 - RG st) * 30 + 2 * (N - k) < f) (hok : GOk N L0 st) (hp : p ∈ st.gl k) (hcl : ∀ i, k < i → i < N → Cl N st i) (hlen : ∀ i, k < i → (st.gl i).length ≤ RG st) (hlk : (st.gl k).length ≤ 101) :
    ∀ m, m ≤ N → (Grow N L0 k st (addFold N f k p m st) ∧ ∀ j, j < m → hasG st k j = true → sftG N (addFold N f k p m st) k (th N (byG st k j) p) = true) ∧ (∀ j, j < N → hasG (addFold N f k p m st) k j = true → LookPre N L0 f k (th N (byG (addFold N f k p m st) k j) p) (addFold N f k p m st)) := by
  obtain ⟨hpv, hpf⟩ := hok.mv k p hp
  have next : ∀ s, Grow N L0 k st s → ∀ j, j < N → hasG s k j = true → LookPre N L0 f k (th N (byG s k j) p) s := fun s hs j hj hh => by
    have := hs.ext.r_le
    refine ⟨hk, by omega, hs.ok, ?_, hs.cl, hs.len, by rw [hs.same k (Nat.le_refl k)]; exact hlk⟩
    exact ((hs.ok.ok k hk j (by omega) hh).2.1).step (by rw [hs.same k (Nat.le_refl k)]; exact hp)
  have key : ∀ m, m ≤ N → Grow N L0 k st (addFold N f k p m st) ∧ ∀ j, j < m → hasG st k j = true → sftG N (addFold N f k p m st) k (th N (byG st k j) p) = true := by
    intro m
    induction m with
    | zero => intro _; exact ⟨Grow.refl hN hok hcl hlen, fun j hj => absurd hj (by omega)⟩
    | succ m ihm =>
      intro hm
      obtain ⟨h1, h2⟩ := ihm (by omega)
      rw [addFold_succ]
      split
      · rename_i hh
        obtain ⟨h3, h4⟩ := ih k _ _ (next _ h1 m (by omega) hh)
        refine ⟨h1.trans hN hk h3, fun j hj hj2 => ?_⟩
        by_cases e : j = m
        · subst e
          rw [← (h1.ext k (by omega) j (by omega) hj2).2]; exact h4
        · have hb := hok.by_ hN hk (by omega) hj2
          exact h1.ok.mono hN h3.ext (by omega) (hb.1.th hN hpv) (fix_th hN (by omega) hb.2 hpf) (h2 j (by omega) hj2)
      · rename_i hh
        refine ⟨h1, fun j hj hj2 => ?_⟩
        by_cases e : j = m
        · subst e
          exact absurd (h1.ext k (by omega) j (by omega) hj2).1 hh
        · exact h2 j (by omega) hj2
  exact fun m hm => ⟨key m hm, next _ (key m hm).1⟩
/-- add is asked for what is left -/
theorem LookPre.rest {f k : Nat} {p : List Int} {st : GS} (h : LookPre N L0 (f + 1) k p st) (hh : hasG st k (pl p k) = true) : Vp N (th N p (bk N (byG st k (pl p k)))) ∧ (∀ i, i < k + 1 → pl (th N p (bk N (byG st k (pl p k)))) i = i) ∧
    (sftG N st (k + 1) (th N p (bk N (byG st k (pl p k)))) = false → AddPre N L0 f (k + 1) (th N p (bk N (byG st k (pl p k)))) st) := by
  have hk := h.kN
  obtain ⟨hpv, hpf⟩ := gen_keeps hN (by omega) (h.ok.mv k) h.gen
  obtain ⟨r1, r2⟩ := (h.ok.chain hN).rest hN hk hpv hpf hh
  refine ⟨r1, r2, fun hno => ?_⟩
  have hk1 : k + 1 < N := by
    apply Classical.byContradiction
    intro hc
    unfold sftG at hno
    rw [show N - (k + 1) = 0 by omega] at hno
    cases hno
  have hmu := h.mu
  refine ⟨hk1, by omega, h.ok, r1, r2, fun e => absurd e (by omega), fun k' e => ?_, fun i hi => h.cl i (by omega), fun i hi => h.len i (by omega), hno⟩
  obtain rfl : k = k' := by omega
  exact h.gen.mul hN (fun s hs => (h.ok.mv k s hs).1) (((h.ok.ok k hk _ (by have := hpv.lt hN hk; omega) hh).2.1).bk hN fun s hs => (h.ok.mv k s hs).1)
/-- what look's loop begins with -/
theorem LookPre.put {f k : Nat} {p : List Int} {st : GS} (h : LookPre N L0 (f + 1) k p st) (hh : hasG st k (pl p k) = false) : (100 - RG (putG k (pl p k) p st)) * 30 + 2 * (N - k) < f ∧ GOk N L0 (putG k (pl p k) p st) ∧ ExtG st (putG k (pl p k) p st) ∧ hasG (putG k (pl p k) p st) k (pl p k) = true ∧ byG (putG k (pl p k) p st) k (pl p k) = p ∧
    (∀ i, k < i → i < N → Cl N (putG k (pl p k) p st) i) ∧ (∀ i, k < i → ((putG k (pl p k) p st).gl i).length ≤ RG (putG k (pl p k) p st)) ∧ (∀ i, i < k → ∀ j, j < 10 → hasG (putG k (pl p k) p st) i j = hasG st i j) ∧ ∀ j, j < 10 → hasG (putG k (pl p k) p st) k j = true → hasG st k j = false → j = pl p k := by
  have hk := h.kN
  have hmu := h.mu
  obtain ⟨hpv, hpf⟩ := gen_keeps hN (by omega) (h.ok.mv k) h.gen
  have hj := hpv.lt hN hk
  obtain ⟨h1, h2⟩ := h.ok.put hN hk h.gen hh
  have e1 : hasG (putG k (pl p k) p st) k (pl p k) = true := by rw [put_has h.ok.hl (by omega) (by omega) (by omega) (by omega), if_pos ⟨rfl, rfl⟩]
  have hR := h2.r_lt (by omega) (by omega) hh e1
  have hR1 := RG_le (st := putG k (pl p k) p st)
  refine ⟨by omega, h1, h2, e1, by rw [put_by h.ok.bb.len hpv.by_.len (by omega) (by omega) (by omega) (by omega), if_pos ⟨rfl, rfl⟩], fun i hi hiN j hjN hjh s hs => ?_, fun i hi => ?_, fun i hi j hj2 => ?_, fun j hj2 a b => ?_⟩
  · have ea : hasG st i j = true := by
      rw [put_has h.ok.hl (by omega) (by omega) (by omega) (by omega), if_neg (by omega)] at hjh; exact hjh
    rw [(h2 i (by omega) j (by omega) ea).2]
    have hb := h.ok.by_ hN hiN (by omega) ea
    have hsv := h.ok.mv i s hs
    exact h.ok.mono hN h2 (by omega) (hb.1.th hN hsv.1) (fix_th hN (by omega) hb.2 hsv.2) (h.cl i hi hiN j hjN ea s hs)
  · have := h.len i hi
    exact Nat.le_trans this (by omega)
  · rw [put_has h.ok.hl (by omega) (by omega) (by omega) (by omega), if_neg (by omega)]
  · rw [put_has h.ok.hl (by omega) (by omega) (by omega) (by omega)] at a
    apply Classical.byContradiction
    intro hne
    rw [if_neg (fun e => hne e.2), b] at a; cases a
/-- what add's loop begins with -/
theorem AddPre.app {f k : Nat} {p : List Int} {st : GS} (h : AddPre N L0 (f + 1) k p st) : (100 - RG (appG k p st)) * 30 + 2 * (N - k) < f ∧ GOk N L0 (appG k p st) ∧ p ∈ (appG k p st).gl k ∧ (∀ i, k < i → i < N → Cl N (appG k p st) i) ∧ (∀ i, k < i → ((appG k p st).gl i).length ≤ RG (appG k p st)) ∧ ((appG k p st).gl k).length ≤ 101 := by
  have hmu := h.mu
  have hR : RG (appG k p st) = RG st := rfl
  have hgl : ∀ i, i ≠ k → (appG k p st).gl i = st.gl i := fun i hi => if_neg hi
  refine ⟨by omega, h.ok.app hN h.vp h.fix h.top h.gen, by show p ∈ if k = k then _ else _; rw [if_pos rfl]; simp, fun i hi hiN j hj hh s hs => ?_, fun i hi => ?_, ?_⟩
  · rw [hgl i (by omega)] at hs
    exact h.cl i (by omega) hiN j hj hh s hs
  · rw [hgl i (by omega), hR]; exact h.len i (by omega)
  · have h1 := h.len k (Nat.le_refl k)
    have h2 := RG_le (st := st)
    have h3 : (appG k p st).gl k = st.gl k ++ [p] := if_pos rfl
    rw [h3, List.length_append, List.length_singleton]; omega
theorem goF_ok : ∀ f, LookOk N L0 f ∧ AddOk N L0 f := by
  intro f
  induction f with
  | zero => exact ⟨fun k p st h => absurd h.mu (by omega), fun k p st h => absurd h.mu (by omega)⟩
  | succ f ih =>
    obtain ⟨ihl, iha⟩ := ih
    refine ⟨fun k p st h => ?_, fun k p st h => ?_⟩
    · have hk := h.kN
      obtain ⟨hpv, hpf⟩ := gen_keeps hN (by omega) (h.ok.mv k) h.gen
      have hj := hpv.lt hN hk
      rw [goF_look]
      cases hh : hasG st k (pl p k)
      · rw [if_neg (by simp)]
        obtain ⟨q1, q2, q3, q4, q5, q6, q7, q8, q9⟩ := h.put hN hh
        have hg1 : Gen N (InL ((putG k (pl p k) p st).gl k)) p := h.gen
        obtain ⟨⟨h1, h2⟩, _⟩ := look_fold hN ihl hk q1 q2 hg1 q6 q7 h.lk (st.gl k) fun q hq => hq
        generalize lookFold N f k p (st.gl k) (putG k (pl p k) p st) = s at h1 h2 ⊢
        obtain ⟨e1, e2⟩ := h1.ext k (by omega) _ (by omega) q4
        refine ⟨⟨h1.ok, q3.trans h1.ext, h1.same, fun i hi j hj2 => (h1.low i hi j hj2).trans (q8 i hi j hj2), h1.pre, h1.cl, h1.len, fun j hjN a b x hx => ?_⟩, ?_⟩
        · cases hc : hasG (putG k (pl p k) p st) k j
          · exact h1.new j hjN a hc x hx
          · have := q9 j (by omega) hc b
            subst this
            rw [e2, q5]
            exact h2 x hx
        · rw [sftG_lvl hN hk, e1, e2, q5, th_bk hN hpv, Bool.true_and]
          exact (h1.ok.chain hN).one hN (by omega)
      · rw [if_pos rfl]
        obtain ⟨r1, r2, r3⟩ := h.rest hN hh
        split
        · rename_i hs
          refine ⟨Grow.refl hN h.ok h.cl h.len, ?_⟩
          rw [sftG_lvl hN hk, hh, hs]; rfl
        · rename_i hs
          have hA := iha _ _ _ (r3 (by simpa using hs))
          generalize goF N f true (k + 1) (th N p (bk N (byG st k (pl p k)))) st = s at hA ⊢
          obtain ⟨e1, e2⟩ := hA.ext k (by omega) _ (by omega) hh
          refine ⟨⟨hA.ok, hA.ext, fun i hi => hA.same i (by omega), fun i hi j hj2 => hA.low i (by omega) j hj2, hA.pre, fun i hi => hA.cl i (by omega), fun i hi => hA.len i (by omega), fun j hjN a b => ?_⟩, ?_⟩
          · rw [hA.low k (by omega) j (by omega), b] at a; cases a
          · rw [sftG_lvl hN hk, e1, e2, Bool.true_and]; exact hA.sf
    · have hk := h.kN
      rw [goF_add]
      obtain ⟨q1, q2, q3, q4, q5, q6⟩ := h.app hN
      obtain ⟨⟨h1, h2⟩, _⟩ := add_fold hN ihl hk q1 q2 q3 q4 q5 q6 N (Nat.le_refl N)
      generalize addFold N f k p N (appG k p st) = s at h1 h2 ⊢
      have hglk : (appG k p st).gl k = st.gl k ++ [p] := if_pos rfl
      have hgli : ∀ i, i ≠ k → (appG k p st).gl i = st.gl i := fun i hi => if_neg hi
      have hext : ExtG st s := h1.ext
      have hmk : s.gl k = st.gl k ++ [p] := (h1.same k (Nat.le_refl k)).trans hglk
      have hid := h.ok.id_ k hk
      have hsf : sftG N s k p = true := by
        have := h2 k hk hid.1
        rwa [show byG (appG k p st) k k = idL N from hid.2, id_th hN h.vp] at this
      have hR := h1.ok.more hN hext (by omega) h.vp h.fix h.no hsf
      refine ⟨h1.ok, hext, fun i hi => (h1.same i (by omega)).trans (hgli i (by omega)), hmk, fun i hi j hj => h1.low i hi j hj, fun i => ?_, fun i hi hiN => ?_, fun i hi => ?_, hsf⟩
      · obtain ⟨X, hX⟩ := h1.pre i
        by_cases e : i = k
        · subst e; exact ⟨[p], hmk⟩
        · exact ⟨X, by rw [hX, hgli i e]⟩
      · by_cases e : i = k
        · subst e
          intro j hj hh x hx
          rw [hmk] at hx
          cases hc : hasG st i j
          · exact h1.new j hj hh hc x (by rw [hglk]; exact hx)
          · have eb := (hext i (by omega) j (by omega) hc).2
            rw [eb]
            rcases List.mem_append.1 hx with hx | hx
            · have hb := h.ok.by_ hN hk (by omega) hc
              have hxv := h.ok.mv i x hx
              exact h.ok.mono hN hext (by omega) (hb.1.th hN hxv.1) (fix_th hN (by omega) hb.2 hxv.2) (h.cl i (Nat.le_refl i) hk j hj hc x hx)
            · rw [List.mem_singleton.1 hx]
              exact h2 j hj hc
        · exact h1.cl i (by omega) hiN
      · by_cases e : i = k
        · subst e
          have := h.len i (Nat.le_refl i)
          rw [hmk, List.length_append, List.length_singleton]; omega
        · exact h1.len i (by omega)
end

/-! groupOf, plain -/
def initF (N : Nat) : Nat → GS
  | 0 => ⟨fun _ => [], List.replicate 1000 0, List.replicate 100 false⟩
  | k + 1 => putG k k (idL N) (initF N k)
/-- fuel that is enough -/
def fuelG : Nat := 4000
def groupF (N : Nat) (L : List (List Int)) (st : GS) : GS := L.foldl (fun s p => if sftG N s 0 p = true then s else goF N fuelG true 0 p s) st
theorem groupF_snoc {N : Nat} {p : List Int} {L : List (List Int)} {st : GS} : groupF N (L ++ [p]) st = if sftG N (groupF N L st) 0 p = true then groupF N L st else goF N fuelG true 0 p (groupF N L st) := by unfold groupF; rw [List.foldl_append]; rfl
structure GAll (N : Nat) (L0 : List Int → Prop) (st : GS) : Prop where
  ok : GOk N L0 st
  cl : ∀ i, i < N → Cl N st i
  len : ∀ i, (st.gl i).length ≤ RG st
theorem groupF_gl0 {N : Nat} : ∀ {k}, (initF N k).gl = fun _ => []
  | 0 => rfl
  | k + 1 => groupF_gl0 (k := k)
section
variable {N : Nat} (hN : N ≤ 10) {L0 : List Int → Prop}
include hN
theorem initF_ok : ∀ m, m ≤ N → (initF N m).h.length = 100 ∧ Bytes 1000 (initF N m).b ∧ ∀ i, i < 10 → ∀ l, l < 10 → hasG (initF N m) i l = decide (i = l ∧ i < m) ∧ (i = l → i < m → byG (initF N m) i l = idL N) := by
  intro m
  induction m with
  | zero =>
    intro _
    refine ⟨by simp [initF], ⟨by simp [initF], fun i => by show 0 ≤ (List.replicate 1000 (0 : Int)).getD i 0 ∧ (List.replicate 1000 (0 : Int)).getD i 0 < 256; rw [getD_rep0]; omega⟩, fun i hi l hl => ⟨?_, fun _ h => absurd h (by omega)⟩⟩
    rw [decide_eq_false (by omega)]
    show (List.replicate 100 false).getD _ false = false
    exact getD_repf
  | succ m ih =>
    intro hm
    obtain ⟨h1, h2, h3⟩ := ih (by omega)
    have hid := (vp_id hN).by_
    refine ⟨by show (List.set _ _ _).length = 100; rw [List.length_set]; exact h1, bytes_spl1000 h2 hid (by omega), fun i hi l hl => ?_⟩
    have e1 := put_has (st := initF N m) (k := m) (j := m) (i := i) (l := l) (p := idL N) h1 (by omega) (by omega) hi hl
    have e2 := put_by (st := initF N m) (k := m) (j := m) (i := i) (l := l) (p := idL N) h2.len hid.len (by omega) (by omega) hi hl
    obtain ⟨h4, h5⟩ := h3 i hi l hl
    show hasG (putG m m (idL N) (initF N m)) i l = _ ∧ (_ → _ → byG (putG m m (idL N) (initF N m)) i l = _)
    rw [e1, e2]
    by_cases e : i = m ∧ l = m
    · rw [if_pos e, if_pos e]
      exact ⟨(decide_eq_true (by omega)).symm, fun _ _ => rfl⟩
    · rw [if_neg e, if_neg e, h4]
      exact ⟨decide_eq_decide.2 (by omega), fun a b => h5 a (by omega)⟩
theorem initF_all : GAll N L0 (initF N N) := by
  obtain ⟨h1, h2, h3⟩ := initF_ok hN N (Nat.le_refl N)
  have hg : (initF N N).gl = fun _ => [] := groupF_gl0
  have hm : ∀ i s, s ∈ (initF N N).gl i → False := fun i s hs => by rw [hg] at hs; cases hs
  refine ⟨⟨h1, h2, fun k hk => ?_, fun k hk j hj hh => ?_, fun k s hs => (hm k s hs).elim, fun s hs => (hm 0 s hs).elim, fun k s hs => (hm _ s hs).elim⟩, fun i _ j _ _ s hs => (hm i s hs).elim, fun i => by rw [hg]; exact Nat.zero_le _⟩
  · obtain ⟨h4, h5⟩ := h3 k (by omega) k (by omega)
    exact ⟨by rw [h4]; exact decide_eq_true ⟨rfl, hk⟩, h5 rfl hk⟩
  · obtain ⟨h4, h5⟩ := h3 k (by omega) j hj
    rw [h4, decide_eq_true_iff] at hh
    obtain ⟨rfl, _⟩ := hh
    rw [h5 rfl hk]
    exact ⟨hk, .one, pl_id hN hk⟩
theorem GAll.pre {st : GS} (h : GAll N L0 st) (h1 : 1 ≤ N) {p : List Int} (hp : Vp N p) (h0 : L0 p) (hno : sftG N st 0 p = false) : AddPre N L0 fuelG 0 p st :=
  ⟨by omega, by unfold fuelG; omega, h.ok, hp, fun i hi => absurd hi (by omega), fun _ => h0, fun k' e => absurd e (by omega), fun i _ hi => h.cl i hi, fun i _ => h.len i, hno⟩
theorem groupF_ok (h1 : 1 ≤ N) {st : GS} (h : GAll N L0 st) : ∀ L : List (List Int), (∀ p, p ∈ L → Vp N p ∧ L0 p) → GAll N L0 (groupF N L st) ∧ ∀ p, p ∈ L → sftG N (groupF N L st) 0 p = true := by
  have key : ∀ n (L : List (List Int)), L.length = n → (∀ p, p ∈ L → Vp N p ∧ L0 p) → GAll N L0 (groupF N L st) ∧ ∀ p, p ∈ L → sftG N (groupF N L st) 0 p = true := by
    intro n
    induction n with
    | zero =>
      intro L hl _
      have : L = [] := List.length_eq_zero_iff.1 hl
      subst this
      exact ⟨h, fun p hp => absurd hp (by simp)⟩
    | succ n ih =>
      intro L hl hL
      have hne : L ≠ [] := fun e => by rw [e] at hl; simp at hl
      have e := List.dropLast_concat_getLast hne
      generalize L.dropLast = L1 at e
      generalize L.getLast hne = p at e
      subst e
      obtain ⟨h2, h3⟩ := ih L1 (by simpa using hl) fun x hx => hL x (by simp [hx])
      obtain ⟨hpv, hp0⟩ := hL p (by simp)
      rw [groupF_snoc]
      split
      · rename_i hs
        refine ⟨h2, fun x hx => ?_⟩
        rcases List.mem_append.1 hx with hx | hx
        · exact h3 x hx
        · rw [List.mem_singleton.1 hx]; exact hs
      · rename_i hs
        have hA := (goF_ok hN fuelG).2 0 p _ (h2.pre hN h1 hpv hp0 (by simpa using hs))
        refine ⟨⟨hA.ok, fun i hi => hA.cl i (by omega) hi, fun i => hA.len i (by omega)⟩, fun x hx => ?_⟩
        rcases List.mem_append.1 hx with hx | hx
        · exact h2.ok.mono hN hA.ext (by omega) (hL x (by simp [hx])).1 (fun i hi => absurd hi (by omega)) (h3 x hx)
        · rw [List.mem_singleton.1 hx]; exact hA.sf
  exact fun L hL => key _ L rfl hL
end
/-- the group's orbits -/
theorem groupF_orb {N : Nat} (hN : N ≤ 10) (h1 : 1 ≤ N) {L : List (List Int)} (hL : ∀ p ∈ L, Vp N p) : OrbC N L (hasG (groupF N L (initF N N))) := by
  obtain ⟨h, hs⟩ := groupF_ok hN h1 (initF_all hN (L0 := InL L)) L fun p hp => ⟨hL p hp, hp⟩
  generalize groupF N L (initF N N) = st at h hs
  have hcl : Closed N (hasG st) (byG st) (fun k s => s ∈ st.gl k) :=
    ⟨fun k s hs => h.ok.mv k s hs, fun k hk j hj hh => (h.ok.ok k hk j (by omega) hh).2.1, fun k hk s hs => h.ok.down k s hs, fun k hk j s hj hh hs => h.cl k hk j hj hh s hs⟩
  have hgen : ∀ k, ∀ s, s ∈ st.gl k → Gen N (InL L) s := by
    intro k
    induction k with
    | zero => intro s hs; exact Gen.of hN (S := InL L) hL (h.ok.top s hs)
    | succ k ih => intro s hs; exact (h.ok.down k s hs).sub hN (S' := InL L) hL ih
  intro k hk j hj10
  by_cases hj : j < N
  case neg =>
    refine ⟨fun hh => absurd ?_ hj, fun ⟨p, h1, _, h3⟩ => absurd ?_ hj⟩
    · exact (h.ok.ok k hk j hj10 hh).1
    · rw [← h3]; exact (h1.vp hN (S := InL L) hL).lt hN hk
  exact (h.ok.chain hN).orbit hN hcl (L := InL L) hL (fun k hk j hj hh => ((h.ok.ok k hk j (by omega) hh).2.1).sub hN (S' := InL L) hL (hgen k)) (fun s hs' => by have := hs s hs'; unfold sftG at this; rwa [Nat.sub_zero] at this) hk hj

end Go.Proofs.Ytjmenocghjggcaa

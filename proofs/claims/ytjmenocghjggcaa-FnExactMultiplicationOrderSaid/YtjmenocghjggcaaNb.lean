/-
Contracts of functions of the given program, by the abstract walk.
-/
import Derived.Test.YtjmenocghjggcaaAbsY
import Derived.Test.YtjmenocghjggcaaNa
namespace Go.Proofs.Ytjmenocghjggcaa
open Go Go.Abs
set_option linter.unusedVariables false
set_option linter.unusedSectionVars false
set_option linter.unusedSimpArgs false
set_option maxRecDepth 100000
/-! normal closures: the least set closed under the products, the quotients and the inner maps is the class of 0 -/
theorem len_le_of_sub {l1 : List Nat} : ∀ {l2 : List Nat}, l1.Nodup → (∀ x ∈ l1, x ∈ l2) → l1.length ≤ l2.length := by
  induction l1 with
  | nil => intro l2 _ _; exact Nat.zero_le _
  | cons a l1 ih =>
    intro l2 hn hs
    rw [List.nodup_cons] at hn
    have ha : a ∈ l2 := hs a (by simp)
    have h1 := ih (l2 := l2.erase a) hn.2 fun x hx => (List.mem_erase_of_ne (by rintro rfl; exact hn.1 hx)).2 (hs x (by simp [hx]))
    rw [List.length_erase_of_mem ha] at h1
    have := List.length_pos_of_mem ha
    simp only [List.length_cons]; omega
theorem inj_surj {l : List Nat} {g : Nat → Nat} (hl : l.Nodup) (hg : ∀ x ∈ l, g x ∈ l) (hi : ∀ x ∈ l, ∀ y ∈ l, g x = g y → x = y) {k : Nat} (hk : k ∈ l) : ∃ z ∈ l, g z = k := by
  apply Classical.byContradiction
  intro h
  have h1 : ¬ k ∈ l.map g := fun hm => by
    obtain ⟨z, hz, e⟩ := List.mem_map.1 hm
    exact h ⟨z, hz, e⟩
  have hnd : ∀ (m : List Nat), m.Nodup → (∀ x ∈ m, x ∈ l) → (m.map g).Nodup := by
    intro m
    induction m with
    | nil => intro _ _; simp
    | cons a m ih =>
      intro hn hs
      rw [List.nodup_cons] at hn
      rw [List.map_cons, List.nodup_cons]
      refine ⟨fun hm => ?_, ih hn.2 fun x hx => hs x (by simp [hx])⟩
      obtain ⟨z, hz, e⟩ := List.mem_map.1 hm
      exact hn.1 (hi z (hs z (by simp [hz])) a (hs a (by simp)) e ▸ hz)
  have h2 := len_le_of_sub (l1 := k :: l.map g) (l2 := l) (List.nodup_cons.2 ⟨h1, hnd l hl fun _ h => h⟩) (by
    intro x hx
    rcases List.mem_cons.1 hx with rfl | hx
    · exact hk
    · obtain ⟨z, hz, rfl⟩ := List.mem_map.1 hx
      exact hg z hz)
  simp at h2
  omega
theorem surj_inj {l : List Nat} {g : Nat → Nat} (hl : l.Nodup) (hs : ∀ k ∈ l, ∃ z ∈ l, g z = k) {x y : Nat} (hx : x ∈ l) (hy : y ∈ l) (e : g x = g y) : x = y := by
  apply Classical.byContradiction
  intro hne
  have h2 := len_le_of_sub (l1 := l) (l2 := (l.erase x).map g) hl fun k hk => by
    obtain ⟨z, hz, ez⟩ := hs k hk
    by_cases h : z = x
    · subst h
      exact List.mem_map.2 ⟨y, (List.mem_erase_of_ne (fun e => hne e.symm)).2 hy, by rw [← e, ez]⟩
    · exact List.mem_map.2 ⟨z, (List.mem_erase_of_ne h).2 hz, ez⟩
  rw [List.length_map, List.length_erase_of_mem hx] at h2
  have := List.length_pos_of_mem hx
  omega
structure Lp (N : Nat) (f ld rd : Nat → Nat → Nat) : Prop where
  pos : 0 < N
  lt : ∀ a b, a < N → b < N → f a b < N
  injL : ∀ a b c, a < N → b < N → c < N → f a b = f a c → b = c
  injR : ∀ a b c, a < N → b < N → c < N → f b a = f c a → b = c
  uL : ∀ x, x < N → f 0 x = x
  uR : ∀ x, x < N → f x 0 = x
  ldlt : ∀ a b, a < N → b < N → ld a b < N
  ldeq : ∀ a b, a < N → b < N → f a (ld a b) = b
  rdlt : ∀ a b, a < N → b < N → rd a b < N
  rdeq : ∀ a b, a < N → b < N → f (rd b a) a = b
inductive NCl (N : Nat) (f ld rd : Nat → Nat → Nat) (S : Nat → Prop) : Nat → Prop
  | zero : NCl N f ld rd S 0
  | base {a} : S a → NCl N f ld rd S a
  | mul {a b} : NCl N f ld rd S a → NCl N f ld rd S b → NCl N f ld rd S (f a b)
  | ldiv {a b} : NCl N f ld rd S a → NCl N f ld rd S b → NCl N f ld rd S (ld a b)
  | rdiv {a b} : NCl N f ld rd S a → NCl N f ld rd S b → NCl N f ld rd S (rd a b)
  | turn {x k} : x < N → NCl N f ld rd S k → NCl N f ld rd S (rd (f x k) x)
  | inL {x y k} : x < N → y < N → NCl N f ld rd S k → NCl N f ld rd S (ld (f y x) (f y (f x k)))
  | inR {x y k} : x < N → y < N → NCl N f ld rd S k → NCl N f ld rd S (rd (f (f k x) y) (f x y))
variable {N : Nat} {f ld rd : Nat → Nat → Nat} {S : Nat → Prop}
theorem NCl.lt (h : Lp N f ld rd) (hS : ∀ a, S a → a < N) {a : Nat} (ha : NCl N f ld rd S a) : a < N := by
  induction ha with
  | zero => exact h.pos
  | base e => exact hS _ e
  | mul _ _ i j => exact h.lt _ _ i j
  | ldiv _ _ i j => exact h.ldlt _ _ i j
  | rdiv _ _ i j => exact h.rdlt _ _ i j
  | turn hx _ i => exact h.rdlt _ _ (h.lt _ _ hx i) hx
  | inL hx hy _ i => exact h.ldlt _ _ (h.lt _ _ hy hx) (h.lt _ _ hy (h.lt _ _ hx i))
  | inR hx hy _ i => exact h.rdlt _ _ (h.lt _ _ (h.lt _ _ i hx) hy) (h.lt _ _ hx hy)
/-- the elements of the closure, as a list -/
theorem ncl_surj (h : Lp N f ld rd) (hS : ∀ a, S a → a < N) {g : Nat → Nat} (hg : ∀ k, NCl N f ld rd S k → NCl N f ld rd S (g k)) (hi : ∀ x y, x < N → y < N → g x = g y → x = y) {k : Nat} (hk : NCl N f ld rd S k) : ∃ z, NCl N f ld rd S z ∧ g z = k := by
  classical
  have hm : ∀ x, x ∈ (List.range N).filter (fun x => decide (NCl N f ld rd S x)) ↔ NCl N f ld rd S x := fun x => by
    rw [List.mem_filter, List.mem_range, decide_eq_true_eq]
    exact ⟨fun e => e.2, fun e => ⟨e.lt h hS, e⟩⟩
  obtain ⟨z, hz, e⟩ := inj_surj (l := (List.range N).filter (fun x => decide (NCl N f ld rd S x))) (g := g) (List.Pairwise.filter _ List.nodup_range) (fun x hx => (hm _).2 (hg _ ((hm _).1 hx))) (fun x hx y hy e => hi x y (((hm _).1 hx).lt h hS) (((hm _).1 hy).lt h hS) e) ((hm k).2 hk)
  exact ⟨z, (hm z).1 hz, e⟩
def NRel (N : Nat) (f ld rd : Nat → Nat → Nat) (S : Nat → Prop) (a b : Nat) : Prop := ∃ k, NCl N f ld rd S k ∧ b = f a k
theorem inL_inj (h : Lp N f ld rd) {x y : Nat} (hx : x < N) (hy : y < N) : ∀ u v, u < N → v < N → ld (f y x) (f y (f x u)) = ld (f y x) (f y (f x v)) → u = v := fun u v hu hv e => by
  have hyx := h.lt _ _ hy hx
  have h1 := h.ldeq (f y x) (f y (f x u)) hyx (h.lt _ _ hy (h.lt _ _ hx hu))
  have h2 := h.ldeq (f y x) (f y (f x v)) hyx (h.lt _ _ hy (h.lt _ _ hx hv))
  rw [e, h2] at h1
  exact h.injL x u v hx hu hv (h.injL y _ _ hy (h.lt _ _ hx hu) (h.lt _ _ hx hv) h1.symm)
theorem turn_inj (h : Lp N f ld rd) {x : Nat} (hx : x < N) : ∀ u v, u < N → v < N → rd (f x u) x = rd (f x v) x → u = v := fun u v hu hv e => by
  have h1 := h.rdeq x (f x u) hx (h.lt _ _ hx hu)
  have h2 := h.rdeq x (f x v) hx (h.lt _ _ hx hv)
  rw [e, h2] at h1
  exact h.injL x u v hx hu hv h1.symm
theorem NRel.trans (h : Lp N f ld rd) (hS : ∀ a, S a → a < N) {a b c : Nat} (ha : a < N) (h1 : NRel N f ld rd S a b) (h2 : NRel N f ld rd S b c) : NRel N f ld rd S a c := by
  obtain ⟨k, hk, rfl⟩ := h1
  obtain ⟨k2, hk2, rfl⟩ := h2
  have lk := hk.lt h hS
  obtain ⟨z, hz, e⟩ := ncl_surj h hS (g := fun z => ld (f a k) (f a (f k z))) (fun z hz => .inL lk ha hz) (inL_inj h lk ha) hk2
  refine ⟨f k z, .mul hk hz, ?_⟩
  rw [← e]
  exact h.ldeq _ _ (h.lt _ _ ha lk) (h.lt _ _ ha (h.lt _ _ lk (hz.lt h hS)))
theorem NRel.symm (h : Lp N f ld rd) (hS : ∀ a, S a → a < N) {a b : Nat} (ha : a < N) (h1 : NRel N f ld rd S a b) : NRel N f ld rd S b a := by
  obtain ⟨k, hk, rfl⟩ := h1
  have lk := hk.lt h hS
  have hz : NCl N f ld rd S (ld k 0) := .ldiv hk .zero
  refine ⟨ld (f a k) (f a (f k (ld k 0))), .inL lk ha hz, ?_⟩
  rw [h.ldeq _ _ (h.lt _ _ ha lk) (h.lt _ _ ha (h.lt _ _ lk (hz.lt h hS))), h.ldeq k 0 lk h.pos, h.uR a ha]
theorem NRel.mR (h : Lp N f ld rd) (hS : ∀ a, S a → a < N) {a b z : Nat} (ha : a < N) (hz : z < N) (h1 : NRel N f ld rd S a b) : NRel N f ld rd S (f z a) (f z b) := by
  obtain ⟨k, hk, rfl⟩ := h1
  have lk := hk.lt h hS
  exact ⟨_, .inL ha hz hk, (h.ldeq _ _ (h.lt _ _ hz ha) (h.lt _ _ hz (h.lt _ _ ha lk))).symm⟩
theorem NRel.mL (h : Lp N f ld rd) (hS : ∀ a, S a → a < N) {a b z : Nat} (ha : a < N) (hz : z < N) (h1 : NRel N f ld rd S a b) : NRel N f ld rd S (f a z) (f b z) := by
  obtain ⟨k, hk, rfl⟩ := h1
  have lk := hk.lt h hS
  have haz := h.lt _ _ ha hz
  have h1 : NCl N f ld rd S (rd (f a k) a) := .turn ha hk
  have l1 := h1.lt h hS
  have e1 := h.rdeq a (f a k) ha (h.lt _ _ ha lk)
  have h2 : NCl N f ld rd S (rd (f (f (rd (f a k) a) a) z) (f a z)) := .inR ha hz h1
  have l2 := h2.lt h hS
  have e2 := h.rdeq (f a z) (f (f (rd (f a k) a) a) z) haz (h.lt _ _ (h.lt _ _ l1 ha) hz)
  obtain ⟨k3, hk3, e3⟩ := ncl_surj h hS (g := fun u => rd (f (f a z) u) (f a z)) (fun u hu => .turn haz hu) (turn_inj h haz) h2
  refine ⟨k3, hk3, ?_⟩
  have e4 := h.rdeq (f a z) (f (f a z) k3) haz (h.lt _ _ haz (hk3.lt h hS))
  rw [← e4, show rd (f (f a z) k3) (f a z) = _ from e3, e2, e1]
theorem cg_rel (h : Lp N f ld rd) (hS : ∀ a, S a → a < N) {i j : Nat} (e : Cg N f (fun a b => a = 0 ∧ S b) i j) : i < N → NRel N f ld rd S i j := by
  have hd : ∀ {i j}, Cg N f (fun a b => a = 0 ∧ S b) i j → i = j ∨ (i < N ∧ j < N) := fun e => e.dom (fun a b hh => ⟨by rw [hh.1]; exact h.pos, hS _ hh.2⟩) h.lt
  induction e with
  | base e => intro _; obtain ⟨rfl, e⟩ := e; exact ⟨_, .base e, (h.uL _ (hS _ e)).symm⟩
  | refl => intro hi; exact ⟨0, .zero, (h.uR _ hi).symm⟩
  | symm e ih =>
    intro hi
    rcases hd e with e2 | e2
    · subst e2; exact ih hi
    · exact (ih e2.1).symm h hS e2.1
  | trans e1 e2 i1 i2 =>
    intro hi
    rcases hd e1 with d | d
    · subst d; exact i2 hi
    · exact (i1 hi).trans h hS hi (i2 d.2)
  | mulL hz e ih =>
    intro hi
    rcases hd e with d | d
    · subst d; exact ⟨0, .zero, (h.uR _ hi).symm⟩
    · exact (ih d.1).mL h hS d.1 hz
  | mulR hz e ih =>
    intro hi
    rcases hd e with d | d
    · subst d; exact ⟨0, .zero, (h.uR _ hi).symm⟩
    · exact (ih d.1).mR h hS d.1 hz
/-! cancelling modulo a congruence: by its label map -/
theorem cg_canR {T : Nat → Nat → Prop} {c : Nat → Nat} (h : Lp N f ld rd) (hT : ∀ a b, T a b → a < N ∧ b < N) (hc : LabOk N f T c) {a b z : Nat} (ha : a < N) (hb : b < N) (hz : z < N) (e : Cg N f T (f a z) (f b z)) : Cg N f T a b := by
  have hm : ∀ x, x ∈ (List.range N).filter (fun x => c x == x) ↔ x < N ∧ c x = x := fun x => by simp
  refine hc.cg ha hb (surj_inj (l := (List.range N).filter (fun x => c x == x)) (g := fun i => c (f i z)) (List.Pairwise.filter _ List.nodup_range) (fun k hk => ?_) ((hm _).2 ⟨hc.lt a ha, hc.idem a ha⟩) ((hm _).2 ⟨hc.lt b hb, hc.idem b hb⟩) ?_)
  · obtain ⟨h1, h2⟩ := (hm k).1 hk
    have hw := h.rdlt k z h1 hz
    refine ⟨c (rd k z), (hm _).2 ⟨hc.lt _ hw, hc.idem _ hw⟩, ?_⟩
    show c (f (c (rd k z)) z) = k
    rw [← hc.mL _ z hw hz, h.rdeq z k hz h1, h2]
  · show c (f (c a) z) = c (f (c b) z)
    rw [← hc.mL a z ha hz, ← hc.mL b z hb hz]
    exact hc.eq hT h.lt e
theorem cg_canL {T : Nat → Nat → Prop} {c : Nat → Nat} (h : Lp N f ld rd) (hT : ∀ a b, T a b → a < N ∧ b < N) (hc : LabOk N f T c) {a b z : Nat} (ha : a < N) (hb : b < N) (hz : z < N) (e : Cg N f T (f z a) (f z b)) : Cg N f T a b := by
  have hm : ∀ x, x ∈ (List.range N).filter (fun x => c x == x) ↔ x < N ∧ c x = x := fun x => by simp
  refine hc.cg ha hb (surj_inj (l := (List.range N).filter (fun x => c x == x)) (g := fun i => c (f z i)) (List.Pairwise.filter _ List.nodup_range) (fun k hk => ?_) ((hm _).2 ⟨hc.lt a ha, hc.idem a ha⟩) ((hm _).2 ⟨hc.lt b hb, hc.idem b hb⟩) ?_)
  · obtain ⟨h1, h2⟩ := (hm k).1 hk
    have hw := h.ldlt z k hz h1
    refine ⟨c (ld z k), (hm _).2 ⟨hc.lt _ hw, hc.idem _ hw⟩, ?_⟩
    show c (f z (c (ld z k))) = k
    rw [← hc.mR _ z hw hz, h.ldeq z k hz h1, h2]
  · show c (f z (c a)) = c (f z (c b))
    rw [← hc.mR a z ha hz, ← hc.mR b z hb hz]
    exact hc.eq hT h.lt e
theorem ncl_cg {c : Nat → Nat} (h : Lp N f ld rd) (hS : ∀ a, S a → a < N) (hc : LabOk N f (fun a b => a = 0 ∧ S b) c) {i : Nat} (e : NCl N f ld rd S i) : Cg N f (fun a b => a = 0 ∧ S b) 0 i := by
  have hT : ∀ a b, (a = 0 ∧ S b) → a < N ∧ b < N := fun a b hh => ⟨by rw [hh.1]; exact h.pos, hS _ hh.2⟩
  induction e with
  | zero => exact .refl
  | base e => exact .base ⟨rfl, e⟩
  | @mul a b ha hb i j =>
    have lb := hb.lt h hS
    have := Cg.mulL lb i
    rw [h.uL b lb] at this
    exact .trans j this
  | @ldiv a b ha hb i j =>
    have la := ha.lt h hS
    have lb := hb.lt h hS
    have lw := h.ldlt a b la lb
    have := Cg.mulL lw i
    rw [h.uL _ lw, h.ldeq a b la lb] at this
    exact .trans j (.symm this)
  | @rdiv a b ha hb i j =>
    have la := ha.lt h hS
    have lb := hb.lt h hS
    have lw := h.rdlt a b la lb
    have := Cg.mulR lw j
    rw [h.uR _ lw, h.rdeq b a lb la] at this
    exact .trans i (.symm this)
  | @turn x k hx hk i =>
    have lk := hk.lt h hS
    have lw := h.rdlt (f x k) x (h.lt _ _ hx lk) hx
    refine cg_canR h hT hc h.pos lw hx ?_
    rw [h.uL x hx, h.rdeq x _ hx (h.lt _ _ hx lk)]
    have := Cg.mulR hx i
    rwa [h.uR x hx] at this
  | @inL x y k hx hy hk i =>
    have lk := hk.lt h hS
    have lyx := h.lt _ _ hy hx
    have lv := h.lt _ _ hy (h.lt _ _ hx lk)
    refine cg_canL h hT hc h.pos (h.ldlt _ _ lyx lv) lyx ?_
    rw [h.uR _ lyx, h.ldeq _ _ lyx lv]
    have := Cg.mulR hy (Cg.mulR hx i)
    rwa [h.uR x hx] at this
  | @inR x y k hx hy hk i =>
    have lk := hk.lt h hS
    have lxy := h.lt _ _ hx hy
    have lv := h.lt _ _ (h.lt _ _ lk hx) hy
    refine cg_canR h hT hc h.pos (h.rdlt _ _ lv lxy) lxy ?_
    rw [h.uL _ lxy, h.rdeq _ _ lxy lv]
    have := Cg.mulL hy (Cg.mulL hx i)
    rwa [h.uL x hx] at this
theorem ncl_iff {c : Nat → Nat} (h : Lp N f ld rd) (hS : ∀ a, S a → a < N) (hc : LabOk N f (fun a b => a = 0 ∧ S b) c) {i : Nat} : NCl N f ld rd S i ↔ Cg N f (fun a b => a = 0 ∧ S b) 0 i :=
  ⟨ncl_cg h hS hc, fun e => by
    have hd := e.dom (fun a b hh => ⟨by rw [hh.1]; exact h.pos, hS _ hh.2⟩) h.lt
    obtain ⟨k, hk, e2⟩ := cg_rel h hS e h.pos
    rw [h.uL k (hk.lt h hS)] at e2
    rw [e2]; exact hk⟩

end Go.Proofs.Ytjmenocghjggcaa

/-
One outcome: each operation of the abstract words comes to one value and one list of changes, which hang on its operands and on the memory that it reads alone.
-/
import Derived.Test.YtopkdpgbjpjgjaaAbsI
namespace Go.Abs
open Go
set_option linter.unusedVariables false
set_option linter.unusedSectionVars false
set_option linter.unusedSimpArgs false
set_option linter.defProp false

abbrev X3 (v : AV) (ups : Ups) (rd : List Id) : AV → Ups → List Id → Prop := fun v' ups' rd' => v' = v ∧ ups' = ups ∧ rd' = rd

theorem ldSc_det {gs : Segs} {st off : Nat} {K : AV → Prop} (h : ldSc gs st off K) : ∃ v, K v ∧ ldSc gs st off (· = v) := by
  unfold ldSc at h ⊢
  split at h
  · exact ⟨_, h.2, h.1, rfl⟩
  · exact ⟨_, h.2, h.1, rfl⟩
  · exact ⟨_, h.2, h.1, rfl⟩
  · exact h.elim

theorem ldMulti_det {gs : Segs} {st off sz : Nat} {K : AV → Prop} (h : ldMulti gs st off sz K) : ∃ v, K v ∧ ldMulti gs st off sz (· = v) := by
  unfold ldMulti at h ⊢
  obtain ⟨h0, h⟩ := h
  split at h
  · exact ⟨_, h, h0, rfl⟩
  · exact h.elim

theorem ldAg_det {gs : Segs} {st off sz : Nat} {K : AV → Prop} (h : ldAg gs st off sz K) : ∃ v, K v ∧ ldAg gs st off sz (· = v) := by
  unfold ldAg at h ⊢
  split at h
  · split at h
    · rename_i hc; exact ⟨_, h.2, by rw [if_pos hc]; exact ⟨h.1, rfl⟩⟩
    · rename_i hc
      split at h
      · rename_i hd; exact ⟨_, h.2, by rw [if_neg hc, if_pos hd]; exact ⟨h.1, rfl⟩⟩
      · rename_i hd
        obtain ⟨v, h1, h2⟩ := ldMulti_det h
        exact ⟨v, h1, by rw [if_neg hc, if_neg hd]; exact h2⟩
  · split at h
    · rename_i hc; exact ⟨_, h.2, by rw [if_pos hc]; exact ⟨h.1, rfl⟩⟩
    · rename_i hc
      split at h
      · rename_i hd; exact ⟨_, h.2, by rw [if_neg hc, if_pos hd]; exact ⟨h.1, rfl⟩⟩
      · rename_i hd
        obtain ⟨v, h1, h2⟩ := ldMulti_det h
        exact ⟨v, h1, by rw [if_neg hc, if_neg hd]; exact h2⟩
  · exact ldMulti_det h
  · exact h.elim

theorem splice_mono {g g' : Sg} {off : Nat} {K K' : Sg → Prop} (hk : ∀ x, K x → K' x) (h : splice g off g' K) : splice g off g' K' := by
  unfold splice at h ⊢
  split at h
  · obtain ⟨h0, h⟩ := h
    refine ⟨h0, ?_⟩
    split at h
    · rename_i hc; rw [if_pos hc]; exact ⟨h.1, hk _ h.2⟩
    · rename_i hc; rw [if_neg hc]; exact ⟨h.1, hk _ h.2⟩
  · split at h
    · rename_i hc; rw [if_pos hc]; exact ⟨h.1, hk _ h.2⟩
    · rename_i hc; rw [if_neg hc]; exact ⟨h.1, hk _ h.2⟩
  · split at h
    · rename_i hc; rw [if_pos hc]; exact ⟨h.1, hk _ h.2⟩
    · rename_i hc; rw [if_neg hc]; exact ⟨h.1, hk _ h.2⟩
  · exact h.elim

theorem splice_det {g g' : Sg} {off : Nat} {K : Sg → Prop} (h : splice g off g' K) : ∃ g2, K g2 ∧ splice g off g' (· = g2) := by
  unfold splice at h ⊢
  split at h
  · obtain ⟨h0, h⟩ := h
    split at h
    · rename_i hc; exact ⟨_, h.2, h0, by rw [if_pos hc]; exact ⟨h.1, rfl⟩⟩
    · rename_i hc; exact ⟨_, h.2, h0, by rw [if_neg hc]; exact ⟨h.1, rfl⟩⟩
  · split at h
    · rename_i hc; exact ⟨_, h.2, by rw [if_pos hc]; exact ⟨h.1, rfl⟩⟩
    · rename_i hc; exact ⟨_, h.2, by rw [if_neg hc]; exact ⟨h.1, rfl⟩⟩
  · split at h
    · rename_i hc; exact ⟨_, h.2, by rw [if_pos hc]; exact ⟨h.1, rfl⟩⟩
    · rename_i hc; exact ⟨_, h.2, by rw [if_neg hc]; exact ⟨h.1, rfl⟩⟩
  · exact h.elim

theorem stMulti_det {st : Nat} : ∀ {vs : Segs} {gs : Segs} {K : Segs → Prop}, stMulti gs st vs K → ∃ x, K x ∧ stMulti gs st vs (· = x)
  | [], gs, K, h => ⟨gs, h, rfl⟩
  | (s, g') :: r, gs, K, h => by
    simp only [stMulti] at h ⊢
    split at h
    · obtain ⟨h0, h⟩ := h
      obtain ⟨g2, h1, h2⟩ := splice_det h
      obtain ⟨x, hx, h3⟩ := stMulti_det h1
      exact ⟨x, hx, h0, splice_mono (fun y hy => by subst hy; exact h3) h2⟩
    · exact h.elim

theorem stSegs_det {gs : Segs} {st off : Nat} {vs : Segs} {K : Segs → Prop} (h : stSegs gs st off vs K) : ∃ x, K x ∧ stSegs gs st off vs (· = x) := by
  unfold stSegs at h ⊢
  split at h
  · split at h
    · obtain ⟨g2, h1, h2⟩ := splice_det h
      exact ⟨_, h1, splice_mono (fun y hy => by subst hy; rfl) h2⟩
    · exact h.elim
  · obtain ⟨h0, h1, h⟩ := h
    obtain ⟨x, hx, h3⟩ := stMulti_det h
    exact ⟨x, hx, h0, h1, h3⟩

theorem stMulti_mono {st : Nat} {K K' : Segs → Prop} (hk : ∀ x, K x → K' x) : ∀ {vs : Segs} {gs : Segs}, stMulti gs st vs K → stMulti gs st vs K'
  | [], gs, h => hk _ h
  | (s, g') :: r, gs, h => by
    simp only [stMulti] at h ⊢
    split at h
    · exact ⟨h.1, splice_mono (fun y hy => stMulti_mono hk hy) h.2⟩
    · exact h.elim

theorem stSegs_mono {gs : Segs} {st off : Nat} {vs : Segs} {K K' : Segs → Prop} (hk : ∀ x, K x → K' x) (h : stSegs gs st off vs K) : stSegs gs st off vs K' := by
  unfold stSegs at h ⊢
  split at h
  · split at h
    · exact splice_mono (fun y hy => hk _ hy) h
    · exact h.elim
  · exact ⟨h.1, h.2.1, stMulti_mono hk h.2.2⟩

theorem aparts_det {P : Program} {pl : Nat → Option (Nat × Nat × Nat)} {env : Env} : ∀ {l : List (Nat × Operand)} {gs : Segs} {K : Segs → Prop}, aparts P pl env l gs K → ∃ x, K x ∧ aparts P pl env l gs (· = x)
  | [], gs, K, h => ⟨gs, h, rfl⟩
  | (j, x) :: r, gs, K, h => by
    simp only [aparts] at h ⊢
    split at h
    · obtain ⟨h0, h⟩ := h
      obtain ⟨g2, h1, h2⟩ := stSegs_det h
      obtain ⟨y, hy, h3⟩ := aparts_det h1
      exact ⟨y, hy, h0, stSegs_mono (fun z hz => by subst hz; exact h3) h2⟩
    · exact h.elim

theorem alo_det {lo : Option AV} {hi : Nat} {K : Nat → Prop} (h : asliceLo lo hi K) : ∃ x, K x ∧ asliceLo lo hi (· = x) := by
  unfold asliceLo at h ⊢
  split at h
  · exact ⟨_, h, rfl⟩
  · exact ⟨_, h.2.2, h.1, h.2.1, rfl⟩
  · exact h.elim

theorem ahi_det {lo : Option AV} {hi : Nat} {K : Nat → Prop} (h : asliceHi lo hi K) : ∃ x, K x ∧ asliceHi lo hi (· = x) := by
  unfold asliceHi at h ⊢
  split at h
  · exact ⟨_, h, rfl⟩
  · exact ⟨_, h.2.2, h.1, h.2.1, rfl⟩
  · exact h.elim

theorem alo_mono {lo : Option AV} {hi : Nat} {K K' : Nat → Prop} (hk : ∀ x, K x → K' x) (h : asliceLo lo hi K) : asliceLo lo hi K' := by
  unfold asliceLo at h ⊢
  split at h
  · exact hk _ h
  · exact ⟨h.1, h.2.1, hk _ h.2.2⟩
  · exact h.elim

theorem ahi_mono {lo : Option AV} {hi : Nat} {K K' : Nat → Prop} (hk : ∀ x, K x → K' x) (h : asliceHi lo hi K) : asliceHi lo hi K' := by
  unfold asliceHi at h ⊢
  split at h
  · exact hk _ h
  · exact ⟨h.1, h.2.1, hk _ h.2.2⟩
  · exact h.elim

theorem aslice_det {P : Program} {t : TypeId} {x : AV} {lo hi : Option AV} {K : AV → Prop} (h : aslice P t x lo hi K) : ∃ v, K v ∧ aslice P t x lo hi (· = v) := by
  unfold aslice at h ⊢
  split at h
  · obtain ⟨h0, h1, h⟩ := h
    obtain ⟨a, h2, h3⟩ := ahi_det h
    obtain ⟨b, h4, h5⟩ := alo_det h2
    exact ⟨_, h4, h0, h1, ahi_mono (fun y hy => by subst hy; exact alo_mono (fun z hz => by subst hz; rfl) h5) h3⟩
  · obtain ⟨a, h2, h3⟩ := ahi_det h
    obtain ⟨b, h4, h5⟩ := alo_det h2
    exact ⟨_, h4, ahi_mono (fun y hy => by subst hy; exact alo_mono (fun z hz => by subst hz; rfl) h5) h3⟩
  · exact h.elim

theorem intBin_det {op : BinOp} {k : IntKind} {x y : Int} {K : AV → Prop} (h : intBin op k x y K) : ∃ v, K v ∧ intBin op k x y (· = v) := by
  cases op <;> simp only [intBin] at h ⊢ <;> first
    | exact ⟨_, h, rfl⟩
    | exact ⟨_, h.2, h.1, rfl⟩

theorem intShift_det {op : BinOp} {k : IntKind} {x y : Int} {K : AV → Prop} (h : intShift op k x y K) : ∃ v, K v ∧ intShift op k x y (· = v) := by
  cases op <;> simp only [intShift] at h ⊢ <;> exact ⟨_, h.2, h.1, rfl⟩

theorem abin_det {P : Program} {op : BinOp} {t : TypeId} {x y : AV} {K : AV → Prop} (h : abin P op t x y K) : ∃ v, K v ∧ abin P op t x y (· = v) := by
  unfold abin at h ⊢
  split at h
  · split at h
    · rename_i hc
      obtain ⟨v, h1, h2⟩ := intShift_det h
      exact ⟨v, h1, by rw [if_pos hc]; exact h2⟩
    · rename_i hc
      obtain ⟨h0, h⟩ := h
      obtain ⟨v, h1, h2⟩ := intBin_det h
      exact ⟨v, h1, by rw [if_neg hc]; exact ⟨h0, h2⟩⟩
  · split at h
    · exact ⟨_, h.2, h.1, rfl⟩
    · exact ⟨_, h.2, h.1, rfl⟩
    · exact h.elim
  · split at h
    · rename_i hr
      exact ⟨_, h.2, h.1, rfl⟩
    · rename_i hr
      exact ⟨_, h.2, h.1, rfl⟩
    · exact h.elim
  · exact h.elim

theorem aun_det {op : UnOp} {x : AV} {K : AV → Prop} (h : aun op x K) : ∃ v, K v ∧ aun op x (· = v) := by
  unfold aun at h ⊢
  split at h
  · exact ⟨_, h, rfl⟩
  · exact ⟨_, h, rfl⟩
  · exact h.elim

theorem aconvert_det {P : Program} {s d : TypeId} {x : AV} {K : AV → Prop} (h : aconvert P s d x K) : ∃ v, K v ∧ aconvert P s d x (· = v) := by
  unfold aconvert at h ⊢
  split at h
  · exact ⟨_, h, rfl⟩
  · exact h.elim

theorem afieldAddr_det {P : Program} {t : TypeId} {x : AV} {f : Nat} {K : AV → Prop} (h : afieldAddr P t x f K) : ∃ v, K v ∧ afieldAddr P t x f (· = v) := by
  unfold afieldAddr at h ⊢
  split at h
  · split at h
    · exact ⟨_, h.2.2, h.1, h.2.1, rfl⟩
    · exact h.elim
  · exact h.elim

theorem aindexAddr_det {P : Program} {t : TypeId} {x i : AV} {K : AV → Prop} (h : aindexAddr P t x i K) : ∃ v, K v ∧ aindexAddr P t x i (· = v) := by
  unfold aindexAddr at h ⊢
  split at h
  · split at h
    · exact ⟨_, h.2.2.2, h.1, h.2.1, h.2.2.1, rfl⟩
    · exact h.elim
  · split at h
    · exact ⟨_, h.2.2.2.2, h.1, h.2.1, h.2.2.1, h.2.2.2.1, rfl⟩
    · exact h.elim
  · exact h.elim

theorem aindex_det {P : Program} {t : TypeId} {x i : AV} {K : AV → Prop} (h : aindex P t x i K) : ∃ v, K v ∧ aindex P t x i (· = v) := by
  unfold aindex at h ⊢
  split at h
  · split at h
    · obtain ⟨h0, h1, h2, h⟩ := h
      split at h
      · obtain ⟨v, h3, h4⟩ := ldAg_det h; exact ⟨v, h3, h0, h1, h2, h4⟩
      · obtain ⟨v, h3, h4⟩ := ldAg_det h; exact ⟨v, h3, h0, h1, h2, h4⟩
      · exact h.elim
      · rename_i e1 e2 e3
        obtain ⟨v, h3, h4⟩ := ldSc_det h.2
        exact ⟨v, h3, h0, h1, h2, h.1, h4⟩
    · exact h.elim
  · split at h
    · exact ⟨_, h.2.2, h.1, h.2.1, rfl⟩
    · exact h.elim
  · exact h.elim

theorem alen_det {P : Program} {t : TypeId} {x : AV} {K : AV → Prop} (h : alen P t x K) : ∃ v, K v ∧ alen P t x (· = v) := by
  unfold alen at h ⊢
  split at h
  · exact ⟨_, h, rfl⟩
  · exact ⟨_, h, rfl⟩
  · exact ⟨_, h, rfl⟩
  · exact ⟨_, h, rfl⟩
  · exact ⟨_, h, rfl⟩
  · exact h.elim

theorem aload_det {P : Program} {t : TypeId} {env : Env} {m : Mem} {x : Operand} {K : AV → Ups → List Id → Prop} (h : aload P t env m x K) : ∃ v ups rd, K v ups rd ∧ aload P t env m x (X3 v ups rd) := by
  unfold aload at h ⊢
  split at h
  · split at h
    · split at h
      · obtain ⟨h0, h⟩ := h; obtain ⟨v, h1, h2⟩ := ldAg_det h; exact ⟨v, _, _, h1, h0, by simpa [X3] using h2⟩
      · obtain ⟨h0, h⟩ := h; obtain ⟨v, h1, h2⟩ := ldAg_det h; exact ⟨v, _, _, h1, h0, by simpa [X3] using h2⟩
      · exact h.elim
      · rename_i e1 e2 e3
        obtain ⟨v, h1, h2⟩ := ldSc_det h
        exact ⟨v, _, _, h1, by simpa [X3] using h2⟩
    · exact h.elim
  · exact h.elim

theorem astore_det {P : Program} {t : TypeId} {env : Env} {m : Mem} {x y : Operand} {K : AV → Ups → List Id → Prop} (h : astore P t env m x y K) : ∃ v ups rd, K v ups rd ∧ astore P t env m x y (X3 v ups rd) := by
  unfold astore at h ⊢
  split at h
  · split at h
    · obtain ⟨h0, h1, h⟩ := h
      obtain ⟨g, h2, h3⟩ := stSegs_det h
      exact ⟨_, _, _, h2, h0, h1, stSegs_mono (fun z hz => by subst hz; exact ⟨rfl, rfl, rfl⟩) h3⟩
    · exact h.elim
  · exact h.elim

theorem slCells_det {m : Mem} {x : AV} {esz : Nat} {z : Zk} {K : Sg → Nat → List Id → Prop} (h : slCells m x esz z K) : ∃ g n rd, K g n rd ∧ slCells m x esz z (fun g' n' rd' => g' = g ∧ n' = n ∧ rd' = rd) := by
  unfold slCells at h ⊢
  split at h
  · exact ⟨_, _, _, h, rfl, rfl, rfl⟩
  · split at h
    · split at h
      · exact ⟨_, _, _, h.2.2, h.1, h.2.1, rfl, rfl, rfl⟩
      · exact h.elim
    · exact h.elim
  · exact h.elim

theorem slCells_mono {m : Mem} {x : AV} {esz : Nat} {z : Zk} {K K' : Sg → Nat → List Id → Prop} (hk : ∀ a b c, K a b c → K' a b c) (h : slCells m x esz z K) : slCells m x esz z K' := by
  unfold slCells at h ⊢
  split at h
  · exact hk _ _ _ h
  · split at h
    · split at h
      · exact ⟨h.1, h.2.1, hk _ _ _ h.2.2⟩
      · exact h.elim
    · exact h.elim
  · exact h.elim

theorem killed_det {m : Mem} {x : AV} {K : Ups → Prop} (h : killed m x K) : ∃ u, K u ∧ killed m x (· = u) := by
  unfold killed at h ⊢
  split at h
  · exact ⟨_, h, rfl⟩
  · split at h
    · exact ⟨_, h, rfl⟩
    · exact h.elim
  · exact h.elim

theorem killed_mono {m : Mem} {x : AV} {K K' : Ups → Prop} (hk : ∀ u, K u → K' u) (h : killed m x K) : killed m x K' := by
  unfold killed at h ⊢
  split at h
  · exact hk _ h
  · split at h
    · exact hk _ h
    · exact h.elim
  · exact h.elim

theorem catSg_det {g h : Sg} {K : Sg → Prop} (e : catSg g h K) : ∃ x, K x ∧ catSg g h (· = x) := by
  unfold catSg at e ⊢
  split at e
  · exact ⟨_, e.2, e.1, rfl⟩
  · exact ⟨_, e, rfl⟩
  · exact ⟨_, e, rfl⟩
  · exact e.elim

theorem catSg_mono {g h : Sg} {K K' : Sg → Prop} (hk : ∀ x, K x → K' x) (e : catSg g h K) : catSg g h K' := by
  unfold catSg at e ⊢
  split at e
  · exact ⟨e.1, hk _ e.2⟩
  · exact hk _ e
  · exact hk _ e
  · exact e.elim

theorem aappend_det {P : Program} {t : TypeId} {m : Mem} {s x : AV} {K : AV → Ups → List Id → Prop} (h : aappend P t m s x K) : ∃ v ups rd, K v ups rd ∧ aappend P t m s x (X3 v ups rd) := by
  unfold aappend at h ⊢
  split at h
  · obtain ⟨h0, h1, h2, h3, h⟩ := h
    obtain ⟨g, n, rd, h, e1⟩ := slCells_det h
    obtain ⟨g', n', rd', h, e2⟩ := slCells_det h
    obtain ⟨h4, h5, h⟩ := h
    obtain ⟨ks, h, e3⟩ := killed_det h
    obtain ⟨g2, h, e4⟩ := catSg_det h
    refine ⟨_, _, _, h, h0, h1, h2, h3, slCells_mono (fun a b c ⟨r1, r2, r3⟩ => ?_) e1⟩
    subst r1; subst r2; subst r3
    refine slCells_mono (fun a b c ⟨r1, r2, r3⟩ => ?_) e2
    subst r1; subst r2; subst r3
    refine ⟨h4, h5, killed_mono (fun u hu => ?_) e3⟩
    subst hu
    exact catSg_mono (fun u hu => by subst hu; exact ⟨rfl, rfl, rfl⟩) e4
  · exact h.elim

theorem amakeSlice_det {P : Program} {t : TypeId} {m : Mem} {s x : AV} {K : AV → Ups → List Id → Prop} (h : amakeSlice P t m s x K) : ∃ v ups rd, K v ups rd ∧ amakeSlice P t m s x (X3 v ups rd) := by
  unfold amakeSlice at h ⊢
  split at h
  · exact ⟨_, _, _, h.2.2.2.2.2.2, h.1, h.2.1, h.2.2.1, h.2.2.2.1, h.2.2.2.2.1, h.2.2.2.2.2.1, rfl, rfl, rfl⟩
  · exact h.elim

def isCall : Op → Bool
  | .call { callee := .value _, .. } => true
  | _ => false

theorem aop_det {P : Program} {op : Op} {env : Env} {m : Mem} {K : AV → Ups → List Id → Prop} (hc : isCall op = false) (h : aop P op env m K) : ∃ v ups rd, K v ups rd ∧ aop P op env m (X3 v ups rd) := by
  have pure1 : ∀ {T : (AV → Prop) → Prop}, (∀ {K}, T K → ∃ v, K v ∧ T (· = v)) → T (fun v => K v [] []) → ∃ v ups rd, K v ups rd ∧ T (fun v' => X3 v ups rd v' [] []) := by
    intro T hT h
    obtain ⟨v, h1, h2⟩ := hT h
    exact ⟨v, [], [], h1, by simpa [X3] using h2⟩
  cases op with
  | move x => exact ⟨_, _, _, h, rfl, rfl, rfl⟩
  | assign x => exact ⟨_, _, _, h, rfl, rfl, rfl⟩
  | pick a b c =>
    simp only [aop] at h ⊢
    split at h
    · exact ⟨_, _, _, h, rfl, rfl, rfl⟩
    · exact h.elim
  | alloc t =>
    simp only [aop] at h ⊢
    split at h
    · exact ⟨_, _, _, h, rfl, rfl, rfl⟩
    · exact h.elim
  | box t x =>
    simp only [aop] at h ⊢
    split at h
    · exact ⟨_, _, _, h, rfl, rfl, rfl⟩
    · exact h.elim
  | build t parts =>
    simp only [aop, abuild] at h ⊢
    split at h
    · obtain ⟨h0, h⟩ := h
      obtain ⟨g, h1, h2⟩ := aparts_det h
      have mono : ∀ {pl env l gs} {K K' : Segs → Prop}, (∀ x, K x → K' x) → aparts P pl env l gs K → aparts P pl env l gs K' := by
        intro pl env l
        induction l with
        | nil => intro gs K K' hk h; exact hk _ h
        | cons x r ih =>
          intro gs K K' hk h
          obtain ⟨j, x⟩ := x
          simp only [aparts] at h ⊢
          split at h
          · exact ⟨h.1, stSegs_mono (fun y hy => ih hk hy) h.2⟩
          · exact h.elim
      exact ⟨_, _, _, h1, h0, mono (fun y hy => by subst hy; exact ⟨rfl, rfl, rfl⟩) h2⟩
    · obtain ⟨h0, h⟩ := h
      obtain ⟨g, h1, h2⟩ := aparts_det h
      have mono : ∀ {pl env l gs} {K K' : Segs → Prop}, (∀ x, K x → K' x) → aparts P pl env l gs K → aparts P pl env l gs K' := by
        intro pl env l
        induction l with
        | nil => intro gs K K' hk h; exact hk _ h
        | cons x r ih =>
          intro gs K K' hk h
          obtain ⟨j, x⟩ := x
          simp only [aparts] at h ⊢
          split at h
          · exact ⟨h.1, stSegs_mono (fun y hy => ih hk hy) h.2⟩
          · exact h.elim
      exact ⟨_, _, _, h1, h0, mono (fun y hy => by subst hy; exact ⟨rfl, rfl, rfl⟩) h2⟩
    · exact h.elim
  | buildSlice t len parts =>
    simp only [aop, abuildSlice] at h ⊢
    split at h
    · obtain ⟨h0, h1, h2, h⟩ := h
      obtain ⟨g, h3, h4⟩ := aparts_det h
      have mono : ∀ {pl env l gs} {K K' : Segs → Prop}, (∀ x, K x → K' x) → aparts P pl env l gs K → aparts P pl env l gs K' := by
        intro pl env l
        induction l with
        | nil => intro gs K K' hk h; exact hk _ h
        | cons x r ih =>
          intro gs K K' hk h
          obtain ⟨j, x⟩ := x
          simp only [aparts] at h ⊢
          split at h
          · exact ⟨h.1, stSegs_mono (fun y hy => ih hk hy) h.2⟩
          · exact h.elim
      exact ⟨_, _, _, h3, h0, h1, h2, mono (fun y hy => by subst hy; exact ⟨rfl, rfl, rfl⟩) h4⟩
    · exact h.elim
  | load t x => exact aload_det h
  | store t x y => exact astore_det h
  | nilCheck x =>
    simp only [aop] at h ⊢
    split at h
    · exact ⟨_, _, _, h, rfl, rfl, rfl⟩
    · exact ⟨_, _, _, h, rfl, rfl, rfl⟩
    · exact h.elim
  | binOp op t x y t' => exact pure1 (T := abin P op t (aev env x) (aev env y)) abin_det h
  | unOp op t x => exact pure1 (T := aun op (aev env x)) aun_det h
  | convert s d x => exact pure1 (T := aconvert P s d (aev env x)) aconvert_det h
  | makeFunc fn first caps =>
    cases fn with
    | func f =>
      simp only [aop] at h ⊢
      split at h
      · rename_i hf
        simp only [hf, if_true]
        split at h
        · exact ⟨_, _, _, h, rfl, rfl, rfl⟩
        · exact h.elim
      · exact h.elim
    | _ => simp only [aop] at h
  | makeSlice t x y => exact amakeSlice_det h
  | slice t x lo hi mx =>
    cases mx with
    | none => exact pure1 (T := aslice P t (aev env x) (lo.map (aev env)) (hi.map (aev env))) aslice_det h
    | some _ => simp only [aop] at h
  | fieldAddr t x f => exact pure1 (T := afieldAddr P t (aev env x) f) afieldAddr_det h
  | indexAddr t x i => exact pure1 (T := aindexAddr P t (aev env x) (aev env i)) aindexAddr_det h
  | index t x i => exact pure1 (T := aindex P t (aev env x) (aev env i)) aindex_det h
  | extract x j =>
    simp only [aop] at h ⊢
    split at h
    · split at h
      · exact ⟨_, _, _, h, rfl, rfl, rfl⟩
      · exact h.elim
    · exact h.elim
  | call c =>
    obtain ⟨callee, args, ats⟩ := c
    cases callee with
    | value f => simp [isCall] at hc
    | invoke r n => simp only [aop] at h
    | builtin b =>
      simp only [aop, abuiltin] at h ⊢
      split at h
      · rename_i t x e1 e2
        exact pure1 (T := alen P t x) alen_det h
      · obtain ⟨h0, h⟩ := h
        obtain ⟨v, ups, rd, h1, h2⟩ := aappend_det h
        exact ⟨v, ups, rd, h1, h0, h2⟩
      · exact h.elim
  | _ => simp only [aop] at h

/-! ### locality -/

/-- An outcome. -/
def Out (P : Program) (op : Op) (env : Env) (m : Mem) (v : AV) (ups : Ups) (rd : List Id) : Prop :=
  match op with
  | .call { callee := .value f, args, .. } => acallee env f (args.toList.map (aev env)) fun f vs => CallsF P f vs m rd (fun v' ups' => v' = v ∧ ups' = ups)
  | op => aop P op env m (X3 v ups rd)

theorem CallsF.mono {P : Program} {f : FuncId} {vs : List AV} {m : Mem} {F : List Id} {K K' : AV → Ups → Prop} (hk : ∀ a b, K a b → K' a b) (h : CallsF P f vs m F K) : CallsF P f vs m F K' := by
  obtain ⟨h1, h2, h3, h4⟩ := h
  refine ⟨h1, h2, h3, fun ρ own w vals a b c d => (h4 ρ own w vals a b c d).mono ?_⟩
  rintro e w' ⟨r, as, ns, val, ρ', e1, e2, e3⟩
  exact ⟨r, as, ns, val, ρ', e1, hk _ _ e2, e3⟩

theorem Out.aop {P : Program} {op : Op} {env : Env} {m : Mem} {v : AV} {ups : Ups} {rd : List Id} (h : Out P op env m v ups rd) : aop P op env m (X3 v ups rd) := by
  unfold Out at h
  split at h
  · simp only [Abs.aop]
    unfold acallee at h ⊢
    split at h
    · exact ⟨rd, CallsF.mono (fun a b hab => ⟨hab.1, hab.2, rfl⟩) h⟩
    · exact h.elim
  · exact h

theorem aopX_out {P : Program} {op : Op} {env : Env} {m : Mem} {K : AV → Ups → List Id → Prop} (h : aopX P true op env m K) : ∃ v ups rd, K v ups rd ∧ Out P op env m v ups rd := by
  unfold aopX at h
  simp only [if_true] at h
  split at h
  · unfold acallee at h
    unfold Out acallee
    split at h
    · rename_i e
      obtain ⟨F, v, ups, h1, h2⟩ := h
      exact ⟨v, ups, F, h2, by simp only [e]; exact h1⟩
    · exact h.elim
  · rename_i hne
    have hc : isCall op = false := by
      unfold isCall
      split
      · exact absurd rfl (hne _ _ _)
      · rfl
    obtain ⟨v, ups, rd, h1, h2⟩ := aop_det hc h
    refine ⟨v, ups, rd, h1, ?_⟩
    unfold Out
    split
    · exact absurd rfl (hne _ _ _)
    · exact h2

end Go.Abs

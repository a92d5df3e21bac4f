import Derived.Test.YtopkdpgbjpjgjaaAbsP
namespace Go.Abs
open Go
set_option linter.unusedVariables false
set_option linter.unusedSectionVars false
set_option linter.unusedSimpArgs false
set_option linter.defProp false

/-! ### symbolic branches -/
theorem on_dec {c : Prop} [Decidable c] {f : Bool → Prop} (h1 : c → f true) (h2 : ¬c → f false) : on (decide c) f := by
  by_cases h : c
  · have : decide c = true := decide_eq_true h
    unfold on; rw [this]; exact h1 h
  · have : decide c = false := decide_eq_false h
    unfold on; rw [this]; exact h2 h
theorem on_ndec {c : Prop} [Decidable c] {f : Bool → Prop} (h1 : c → f false) (h2 : ¬c → f true) : on (!decide c) f := by
  by_cases h : c
  · have : decide c = true := decide_eq_true h
    unfold on; rw [this]; exact h1 h
  · have : decide c = false := decide_eq_false h
    unfold on; rw [this]; exact h2 h
theorem on_bool2 {b : Bool} {f : Bool → Prop} (h1 : b = true → f true) (h2 : b = false → f false) : on b f := by
  cases b
  · exact h2 rfl
  · exact h1 rfl

/-! ### masks -/
def mask (f : Nat → Nat) : Nat → Nat
  | 0 => 0
  | k + 1 => mask f k ||| 2 ^ f k

theorem mask_lt {f : Nat → Nat} {n : Nat} : ∀ {k : Nat}, (∀ i, i < k → f i < n) → mask f k < 2 ^ n
  | 0, _ => Nat.two_pow_pos n
  | k + 1, h => by
    refine Nat.or_lt_two_pow (mask_lt fun i hi => h i (by omega)) ?_
    exact Nat.pow_lt_pow_right (by decide) (h k (by omega))

theorem mask_testBit {f : Nat → Nat} {i : Nat} : ∀ {k : Nat}, (mask f k).testBit i = true ↔ ∃ j, j < k ∧ f j = i
  | 0 => by simp [mask]
  | k + 1 => by
    simp only [mask, Nat.testBit_or, Bool.or_eq_true, mask_testBit (k := k), Nat.testBit_two_pow, decide_eq_true_eq]
    constructor
    · rintro (⟨j, hj, h⟩ | h)
      · exact ⟨j, by omega, h⟩
      · exact ⟨k, by omega, h⟩
    · rintro ⟨j, hj, h⟩
      by_cases hk : j = k
      · subst hk; exact .inr h
      · exact .inl ⟨j, by omega, h⟩

theorem wrap_or {a b : Nat} (ha : a < 2 ^ 63) (hb : b < 2 ^ 63) : IntKind.i64.wrap ((BitVec.ofInt IntKind.i64.bits (a : Int) ||| BitVec.ofInt IntKind.i64.bits (b : Int)).toNat : Int) = ((a ||| b : Nat) : Int) := by
  have h : a ||| b < 2 ^ 63 := Nat.or_lt_two_pow ha hb
  have e1 : BitVec.ofInt IntKind.i64.bits (a : Int) = BitVec.ofNat 64 a := BitVec.ofInt_natCast ..
  have e2 : BitVec.ofInt IntKind.i64.bits (b : Int) = BitVec.ofNat 64 b := BitVec.ofInt_natCast ..
  have e3 : (BitVec.ofInt IntKind.i64.bits (a : Int) ||| BitVec.ofInt IntKind.i64.bits (b : Int)).toNat = a ||| b := by
    rw [e1, e2]
    show ((BitVec.ofNat 64 a) ||| (BitVec.ofNat 64 b)).toNat = _
    rw [BitVec.toNat_or, BitVec.toNat_ofNat, BitVec.toNat_ofNat, Nat.mod_eq_of_lt (by omega), Nat.mod_eq_of_lt (by omega)]
  rw [e3]
  generalize a ||| b = c at h
  simp [IntKind.wrap, IntKind.bits, IntKind.signed] 
  omega

theorem wrap_shl {c : Nat} (hc : c < 62) : IntKind.i64.wrap (1 * 2 ^ (min c IntKind.i64.bits)) = ((2 ^ c : Nat) : Int) := by
  have h : (2 : Nat) ^ c < 2 ^ 62 := Nat.pow_lt_pow_right (by decide) hc
  have e : min c IntKind.i64.bits = c := by
    show min c 64 = c
    omega
  rw [e, Int.one_mul]
  have : ((2 : Int) ^ c) = ((2 ^ c : Nat) : Int) := by push_cast; rfl
  rw [this]
  generalize 2 ^ c = d at h
  simp [IntKind.wrap, IntKind.bits, IntKind.signed]
  omega
theorem wrap_i64 {a : Int} (h1 : -2 ^ 63 ≤ a) (h2 : a < 2 ^ 63) : IntKind.i64.wrap a = a := by
  simp [IntKind.wrap, IntKind.bits, IntKind.signed]
  omega
/-- A call that is handed the blocks 'F'. -/
theorem CallsVia.args {P : Program} {f : FuncId} {vs vs' : List AV} {m : Mem} {K : AV → Ups → List Id → Prop} {ms' : List Blk} {R : AV → List Blk → List Blk → Prop} (F : List Id) (h : ACalls P f vs' ms' R)
    (hn : F.Nodup) (hl : ∀ p ∈ F, m.get p.1 p.2 ≠ .dead) (hv : renVs (renIn F) vs = vs') (hm : argBlks m F = ms')
    (hK : ∀ r xs ns, R r xs ns → K (renV (renOut m.next F) r) (zipUps (renOut m.next F) F xs ++ newUps (renOut m.next F) m.next 0 ns) F) : CallsVia P f vs m K :=
  CallsVia.intro F hn hl (by rw [hv, hm]; exact h) hK
theorem fin_b {m : Mem} {b c : Bool} (h : c = b) (hm : m.args = []) : Abs.Fin (fun r ms ns => r = .b c ∧ ms = [] ∧ ns = []) m (.b b) := ⟨[], by simp, by simp, by simp [renV, h, hm]⟩
theorem fin_true {m : Mem} {c : Bool} (h : c = true) (hm : m.args = [] := by rfl) : Abs.Fin (fun r ms ns => r = .b c ∧ ms = [] ∧ ns = []) m (.b true) := fin_b h hm
theorem fin_false {m : Mem} {c : Bool} (h : c = false) (hm : m.args = [] := by rfl) : Abs.Fin (fun r ms ns => r = .b c ∧ ms = [] ∧ ns = []) m (.b false) := fin_b h hm
end Go.Abs

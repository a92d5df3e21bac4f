/-
The equations of the abstract words, as one name for the simplifier.
-/
import Derived.Test.YtjmenocghjggcaaAbsO
namespace Go.Abs
open Go
set_option linter.unusedVariables false
set_option linter.unusedSectionVars false
set_option linter.unusedSimpArgs false
set_option linter.defProp false

set_option maxRecDepth 100000 in
def absE := And.intro (And.intro (@slSegs_sl) (And.intro (And.intro (@shiftSg.eq_1) (@shiftSg.eq_2)) (And.intro (@mixZero.eq_1) (@mixZero.eq_2)))) <| And.intro (And.intro (@asliceV_sl) (And.intro (@asliceV_s) (And.intro (@asliceV_ptr) (And.intro (@asliceP_on) (And.intro (@acopy_on) (@abuiltin.eq_6)))))) <| And.intro (And.intro @Tag_eq (And.intro (And.intro (And.intro (And.intro (@aopX_f) (And.intro (@aopX_move) (@aopX_assign))) (And.intro (@aopX_pick) (And.intro (@aopX_alloc) (@aopX_box)))) (And.intro (And.intro (@aopX_build) (And.intro (@aopX_buildSlice) (@aopX_load))) (And.intro (@aopX_store) (And.intro (@aopX_nilCheck) (@aopX_binOp))))) (And.intro (And.intro (And.intro (@aopX_unOp) (And.intro (@aopX_convert) (@aopX_makeFunc))) (And.intro (@aopX_makeSlice) (And.intro (@aopX_slice) (@aopX_fieldAddr)))) (And.intro (And.intro (@aopX_indexAddr) (And.intro (@aopX_index) (@aopX_extract))) (And.intro (And.intro (@aopX_builtin) (@aopX_call)) (And.intro (@chk_pure) (@awp_region))))))) <| And.intro (And.intro (And.intro (And.intro (And.intro (And.intro (@aev.eq_1) (And.intro (And.intro (@aev.eq_2) (@aev.eq_3)) (And.intro (@aev.eq_4) (@lk.eq_1)))) (And.intro (And.intro (And.intro (@lk.eq_2) (@ofConst.eq_1)) (And.intro (@ofConst.eq_2) (@ofConst.eq_3))) (And.intro (And.intro (@ofConst.eq_4) (@ofConst.eq_5)) (And.intro (@ofConst.eq_6) (@ofConst.eq_7))))) (And.intro (And.intro (And.intro (And.intro (@isShift.eq_1) (@isShift.eq_2)) (And.intro (@isShift.eq_3) (@intBin.eq_1))) (And.intro (And.intro (@intBin.eq_2) (@intBin.eq_3)) (And.intro (@intBin.eq_4) (@intBin.eq_5)))) (And.intro (And.intro (And.intro (@intBin.eq_6) (@intBin.eq_7)) (And.intro (@intBin.eq_8) (@intBin.eq_9))) (And.intro (And.intro (@intBin.eq_10) (@intBin.eq_11)) (And.intro (@intBin.eq_12) (@intBin.eq_13)))))) (And.intro (And.intro (And.intro (And.intro (And.intro (@intBin.eq_14) (@intBin.eq_15)) (And.intro (@intBin.eq_16) (@intShift.eq_1))) (And.intro (And.intro (@intShift.eq_2) (@intShift.eq_3)) (And.intro (@aun.eq_1) (@aun.eq_2)))) (And.intro (And.intro (And.intro (@aun.eq_3) (@pickV.eq_1)) (And.intro (@pickV.eq_2) (@setD.eq_1))) (And.intro (And.intro (@setD.eq_2) (@dstOf.eq_1)) (And.intro (@Mem.tick.eq_1) (@Mem.upd.eq_1))))) (And.intro (And.intro (And.intro (And.intro (@Mem.upd.eq_2) (@Mem.put.eq_1)) (And.intro (@Mem.get.eq_1) (@assoc.eq_1))) (And.intro (And.intro (@assoc.eq_2) (@seg?.eq_1)) (And.intro (@seg?.eq_2) (@updSeg.eq_1)))) (And.intro (And.intro (And.intro (@updSeg.eq_2) (@dropTo.eq_1)) (And.intro (@dropTo.eq_2) (@takeSz.eq_1))) (And.intro (And.intro (@takeSz.eq_2) (@takeSz.eq_3)) (And.intro (@splice.eq_1) (@splice.eq_2))))))) (And.intro (And.intro (And.intro (And.intro (And.intro (And.intro (@splice.eq_3) (@splice.eq_4)) (And.intro (@segsOfAV.eq_1) (@segsOfAV.eq_2))) (And.intro (And.intro (@segsOfAV.eq_3) (@segsOfAV.eq_4)) (And.intro (@segsOfAV.eq_5) (@segsLen.eq_1)))) (And.intro (And.intro (And.intro (@segsLen.eq_2) (@Sg.len.eq_1)) (And.intro (@Sg.len.eq_2) (@Sg.len.eq_3))) (And.intro (And.intro (@spl.eq_1) (@spl.eq_2)) (And.intro (@capsOf.eq_1) (@capsOf.eq_2))))) (And.intro (And.intro (And.intro (And.intro (@subSg.eq_1) (@subSg.eq_2)) (And.intro (@subSg.eq_3) (@subSg'.eq_1))) (And.intro (And.intro (@catSg.eq_1) (@catSg.eq_2)) (And.intro (@catSg.eq_3) (@catSg.eq_4)))) (And.intro (And.intro (And.intro (@isNil.eq_1) (@isNil.eq_2)) (And.intro (@notNil.eq_1) (@notNil.eq_2))) (And.intro (And.intro (@zeroArr.eq_1) (@zeroArr.eq_2)) (And.intro (@zeroArr.eq_3) (@Zk.len.eq_1)))))) (And.intro (And.intro (And.intro (And.intro (And.intro (@Zk.len.eq_2) (@Zk.len.eq_3)) (And.intro (@capArgs.eq_1) (@abuiltin.eq_1))) (And.intro (And.intro (@abuiltin.eq_2) (And.intro (@abuiltin.eq_3) (And.intro (@abuiltin.eq_4) (@abuiltin.eq_5)))) (And.intro (@params.eq_1) (@params.eq_2)))) (And.intro (And.intro (And.intro (@aleave.eq_1) (@aleave.eq_2)) (And.intro (@aleave.eq_3) (@aress.eq_1))) (And.intro (And.intro (@aress.eq_2) (@tupOf.eq_1)) (And.intro (@tupOf.eq_2) (@renV.eq_1))))) (And.intro (And.intro (And.intro (And.intro (@renV.eq_2) (@renV.eq_3)) (And.intro (@renV.eq_4) (@renV.eq_5))) (And.intro (And.intro (@renV.eq_6) (@renVs.eq_1)) (And.intro (@renVs.eq_2) (@renAt.eq_1)))) (And.intro (And.intro (And.intro (@renAt.eq_2) (@renAt.eq_3)) (And.intro (@renAt.eq_4) (@renSg.eq_1))) (And.intro (And.intro (@renSg.eq_2) (@renSegs.eq_1)) (And.intro (@renSegs.eq_2) (@renCaps.eq_1)))))))) (And.intro (And.intro (And.intro (And.intro (And.intro (And.intro (@renCaps.eq_2) (And.intro (@renBlk.eq_1) (@renBlk.eq_2))) (And.intro (And.intro (@renIn.eq_1) (@renOut.eq_1)) (And.intro (@idx.eq_1) (@idx.eq_2)))) (And.intro (And.intro (And.intro (@argBlks.eq_1) (@zipUps.eq_1)) (And.intro (@zipUps.eq_2) (@newUps.eq_1))) (And.intro (And.intro (@newUps.eq_2) (@renTo.eq_1)) (And.intro (@renTo.eq_2) (@renFin.eq_1))))) (And.intro (And.intro (And.intro (And.intro (@wkLoc.eq_1) (@wkLoc.eq_2)) (And.intro (@wkMem.eq_1) (@wkEnv.eq_1))) (And.intro (And.intro (@wkEnv.eq_2) (@foot.eq_1)) (And.intro (@foot.eq_2) (@foot.eq_3)))) (And.intro (And.intro (And.intro (@idsAt.eq_1) (@idsAt.eq_2)) (And.intro (@idsAt.eq_3) (@idsAt.eq_4))) (And.intro (And.intro (@idsSg.eq_1) (@idsSg.eq_2)) (And.intro (@idsSegs.eq_1) (@idsSegs.eq_2)))))) (And.intro (And.intro (And.intro (And.intro (And.intro (@idsV.eq_1) (@idsV.eq_2)) (And.intro (@idsV.eq_3) (And.intro (And.intro @chk_nil @chk_r) (And.intro @chk_w (And.intro @chk_wr @chk_rw))))) (And.intro (And.intro (And.intro (And.intro @chk_nil @chk_r) (And.intro @chk_w (And.intro @chk_wr @chk_rw))) (@disj.eq_1)) (@awp.eq_1))) (And.intro (And.intro (And.intro (@awp.eq_3) (@awp.eq_5)) (And.intro (@awp.eq_6) (@awp.eq_7))) (And.intro (And.intro (@awp.eq_8) (@on_top)) (And.intro (@on_b) (@on_i))))) (And.intro (And.intro (And.intro (And.intro (@on_ref) (@on_agg)) (And.intro (@on_tup) (@on_dead))) (And.intro (And.intro (@on_lv) (@on_other)) (And.intro (@on_sc) (@on_bool)))) (And.intro (And.intro (And.intro (@on_int) (@on_str)) (And.intro (@on_arr) (@on_st))) (And.intro (And.intro (@on_sl) (@on_none)) (And.intro (@on_some) (@on_true))))))) (And.intro (And.intro (And.intro (And.intro (And.intro (And.intro (@on_false) (@aops_nil)) (And.intro (And.intro (And.intro @aops_nf @aops_nt) (And.intro @aops_gf @aops_gt)) (@aop_move))) (And.intro (And.intro (@aop_assign) (@aop_pick)) (And.intro (@aop_alloc) (@aop_box)))) (And.intro (And.intro (And.intro (@aop_build) (@aop_buildSlice)) (And.intro (@aop_load) (@aop_store))) (And.intro (And.intro (@aop_nilCheck) (@aop_binOp)) (And.intro (@aop_unOp) (@aop_convert))))) (And.intro (And.intro (And.intro (And.intro (@aop_makeFunc) (@aop_makeSlice)) (And.intro (@aop_slice) (@aop_fieldAddr))) (And.intro (And.intro (@aop_indexAddr) (@aop_index)) (And.intro (@aop_extract) (@aop_call)))) (And.intro (And.intro (And.intro (@aop_builtin) (@acallee_on)) (And.intro (@aload_on) (@astore_on))) (And.intro (And.intro (@ldSc_on) (@ldMulti_on)) (And.intro (@ldAg_on) (@stMulti_nil)))))) (And.intro (And.intro (And.intro (And.intro (And.intro (@stMulti_cons) (@stSegs_one)) (And.intro (@stSegs_nil) (@stSegs_more))) (And.intro (And.intro (@aparts_nil) (@aparts_cons)) (And.intro (@abuild_on) (@abuildSlice_on)))) (And.intro (And.intro (And.intro (@aindexAddr_ptr) (@aindexAddr_sl)) (And.intro (@aindex_agg) (@aindex_str))) (And.intro (And.intro (@afieldAddr_on) (@aconvert_on)) (And.intro (@asliceHi_none) (@asliceHi_some))))) (And.intro (And.intro (And.intro (And.intro (@asliceLo_none) (@asliceLo_some)) (And.intro (@aslice_sl) (@aslice_str))) (And.intro (And.intro (@alen_on) (@slCells_nils)) (And.intro (@slCells_sl) (@killed_nils)))) (And.intro (And.intro (And.intro (@killed_sl) (@aappend_on)) (And.intro (@amakeSlice_on) (@awp_cond))) (And.intro (And.intro (@abin_ints) (And.intro (@abin_bools) (And.intro (And.intro (@abin_aggs) (@eqSegs_nil)) (And.intro (And.intro (@eqSegs_ii) (@eqSegs_bb)) (And.intro (And.intro (@shapes.eq_1) (@shapes.eq_2)) (@shapes.eq_3)))))) (And.intro (@ares_tmp) (@ares_cell))))))))

def absL := And.intro (And.intro (@List.toList_toArray.{0}) (And.intro (@List.all_cons.{0}) (@List.all_nil.{0}))) <| And.intro (And.intro (And.intro (And.intro (And.intro (@List.getElem?_cons_succ.{0}) (@List.getElem?_cons_zero.{0})) (And.intro (@Option.bind_some.{0,0}) (@Option.map_some.{0,0}))) (And.intro (And.intro (@true_and) (@and_true)) (And.intro (@decide_true) (@decide_false)))) (And.intro (And.intro (And.intro (@List.map_cons.{0,0}) (@List.map_nil.{0,0})) (And.intro (@List.getD_cons_zero.{0}) (@List.getD_cons_succ.{0}))) (And.intro (And.intro (@List.append_nil.{0}) (@List.nil_append.{0})) (And.intro (@List.cons_append.{0}) (@cond_true.{1}))))) (And.intro (And.intro (And.intro (And.intro (@cond_false.{1}) (@Bool.not_true)) (And.intro (@Bool.not_false) (@Option.map_none.{0,0}))) (And.intro (And.intro (@List.set_cons_zero.{0}) (@List.set_cons_succ.{0})) (And.intro (@false_and) (@and_false)))) (And.intro (And.intro (And.intro (@Bool.and_true) (@Bool.true_and)) (And.intro (@Bool.and_false) (@Bool.false_and))) (And.intro (And.intro (@Bool.or_true) (@Bool.or_false)) (And.intro (@Bool.true_or) (@Bool.false_or)))))

end Go.Abs

namespace Go.Abs
open Go
set_option linter.unusedVariables false
set_option linter.unusedSectionVars false
set_option linter.unusedSimpArgs false
set_option linter.defProp false

/-! ### symbolic branches -/
theorem on_dec {c : Prop} [Decidable c] {f : Bool → Prop} (h1 : c → f true) (h2 : ¬c → f false) : on (decide c) f := by
  by_cases h : c
  · have : decide c = true := decide_eq_true h
    unfold on; rw [this]; exact h1 h
  · have : decide c = false := decide_eq_false h
    unfold on; rw [this]; exact h2 h
theorem on_ndec {c : Prop} [Decidable c] {f : Bool → Prop} (h1 : c → f false) (h2 : ¬c → f true) : on (!decide c) f := by
  by_cases h : c
  · have : decide c = true := decide_eq_true h
    unfold on; rw [this]; exact h1 h
  · have : decide c = false := decide_eq_false h
    unfold on; rw [this]; exact h2 h
theorem on_bool2 {b : Bool} {f : Bool → Prop} (h1 : b = true → f true) (h2 : b = false → f false) : on b f := by
  cases b
  · exact h2 rfl
  · exact h1 rfl

/-! ### masks -/
def mask (f : Nat → Nat) : Nat → Nat
  | 0 => 0
  | k + 1 => mask f k ||| 2 ^ f k

theorem mask_lt {f : Nat → Nat} {n : Nat} : ∀ {k : Nat}, (∀ i, i < k → f i < n) → mask f k < 2 ^ n
  | 0, _ => Nat.two_pow_pos n
  | k + 1, h => by
    refine Nat.or_lt_two_pow (mask_lt fun i hi => h i (by omega)) ?_
    exact Nat.pow_lt_pow_right (by decide) (h k (by omega))

theorem mask_testBit {f : Nat → Nat} {i : Nat} : ∀ {k : Nat}, (mask f k).testBit i = true ↔ ∃ j, j < k ∧ f j = i
  | 0 => by simp [mask]
  | k + 1 => by
    simp only [mask, Nat.testBit_or, Bool.or_eq_true, mask_testBit (k := k), Nat.testBit_two_pow, decide_eq_true_eq]
    constructor
    · rintro (⟨j, hj, h⟩ | h)
      · exact ⟨j, by omega, h⟩
      · exact ⟨k, by omega, h⟩
    · rintro ⟨j, hj, h⟩
      by_cases hk : j = k
      · subst hk; exact .inr h
      · exact .inl ⟨j, by omega, h⟩

theorem wrap_or {a b : Nat} (ha : a < 2 ^ 63) (hb : b < 2 ^ 63) : IntKind.i64.wrap ((BitVec.ofInt IntKind.i64.bits (a : Int) ||| BitVec.ofInt IntKind.i64.bits (b : Int)).toNat : Int) = ((a ||| b : Nat) : Int) := by
  have h : a ||| b < 2 ^ 63 := Nat.or_lt_two_pow ha hb
  have e1 : BitVec.ofInt IntKind.i64.bits (a : Int) = BitVec.ofNat 64 a := BitVec.ofInt_natCast ..
  have e2 : BitVec.ofInt IntKind.i64.bits (b : Int) = BitVec.ofNat 64 b := BitVec.ofInt_natCast ..
  have e3 : (BitVec.ofInt IntKind.i64.bits (a : Int) ||| BitVec.ofInt IntKind.i64.bits (b : Int)).toNat = a ||| b := by
    rw [e1, e2]
    show ((BitVec.ofNat 64 a) ||| (BitVec.ofNat 64 b)).toNat = _
    rw [BitVec.toNat_or, BitVec.toNat_ofNat, BitVec.toNat_ofNat, Nat.mod_eq_of_lt (by omega), Nat.mod_eq_of_lt (by omega)]
  rw [e3]
  generalize a ||| b = c at h
  simp [IntKind.wrap, IntKind.bits, IntKind.signed] 
  omega

theorem wrap_shl {c : Nat} (hc : c < 62) : IntKind.i64.wrap (1 * 2 ^ (min c IntKind.i64.bits)) = ((2 ^ c : Nat) : Int) := by
  have h : (2 : Nat) ^ c < 2 ^ 62 := Nat.pow_lt_pow_right (by decide) hc
  have e : min c IntKind.i64.bits = c := by
    show min c 64 = c
    omega
  rw [e, Int.one_mul]
  have : ((2 : Int) ^ c) = ((2 ^ c : Nat) : Int) := by push_cast; rfl
  rw [this]
  generalize 2 ^ c = d at h
  simp [IntKind.wrap, IntKind.bits, IntKind.signed]
  omega
theorem wrap_i64 {a : Int} (h1 : -2 ^ 63 ≤ a) (h2 : a < 2 ^ 63) : IntKind.i64.wrap a = a := by
  simp [IntKind.wrap, IntKind.bits, IntKind.signed]
  omega
/-- A call that is handed the blocks 'F'. -/
theorem CallsVia.args {P : Program} {f : FuncId} {vs vs' : List AV} {m : Mem} {K : AV → Ups → List Id → Prop} {ms' : List Blk} {R : AV → List Blk → List Blk → Prop} (F : List Id) (h : ACalls P f vs' ms' R)
    (hn : F.Nodup) (hl : ∀ p ∈ F, m.get p.1 p.2 ≠ .dead) (hv : renVs (renIn F) vs = vs') (hm : argBlks m F = ms')
    (hK : ∀ r xs ns, R r xs ns → K (renV (renOut m.next F) r) (zipUps (renOut m.next F) F xs ++ newUps (renOut m.next F) m.next 0 ns) F) : CallsVia P f vs m K :=
  CallsVia.intro F hn hl (by rw [hv, hm]; exact h) hK
theorem fin_b {m : Mem} {b c : Bool} (h : c = b) (hm : m.args = []) : Abs.Fin (fun r ms ns => r = .b c ∧ ms = [] ∧ ns = []) m (.b b) := ⟨[], by simp, by simp, by simp [renV, h, hm]⟩
theorem fin_true {m : Mem} {c : Bool} (h : c = true) (hm : m.args = [] := by rfl) : Abs.Fin (fun r ms ns => r = .b c ∧ ms = [] ∧ ns = []) m (.b true) := fin_b h hm
theorem fin_false {m : Mem} {c : Bool} (h : c = false) (hm : m.args = [] := by rfl) : Abs.Fin (fun r ms ns => r = .b c ∧ ms = [] ∧ ns = []) m (.b false) := fin_b h hm
end Go.Abs

/-
Equality of structs and arrays that are built of integers and truths.
-/
import Derived.Test.YtopkdpgbjpjgjaaAbsD
import Derived.ChangeKeysEq
namespace Go.Abs
open Go
set_option linter.unusedVariables false
set_option linter.unusedSectionVars false
set_option linter.unusedSimpArgs false
set_option linter.defProp false

attribute [local instance low] Classical.propDecidable

variable {P : Program} (w : World)

def KdV : Kd → Value → Prop
  | .int k, v => ∃ n, v = .int k n
  | .bool, v => ∃ b, v = .bool b

def KdVs : List Kd → List Value → Prop
  | [], l => l = []
  | k :: r, l => ∃ v l', l = v :: l' ∧ KdV k v ∧ KdVs r l'

theorem KdVs.length : ∀ {ks : List Kd} {l : List Value}, KdVs ks l → l.length = ks.length
  | [], l, h => by simp only [KdVs] at h; subst h; rfl
  | k :: r, l, h => by obtain ⟨v, l', rfl, _, h⟩ := h; simp [h.length]

theorem KdVs.split : ∀ {ks ks' : List Kd} {l : List Value}, KdVs (ks ++ ks') l → ∃ l1 l2, l = l1 ++ l2 ∧ KdVs ks l1 ∧ KdVs ks' l2
  | [], ks', l, h => ⟨[], l, rfl, rfl, h⟩
  | k :: r, ks', l, h => by
    obtain ⟨v, l', rfl, hv, h⟩ := h
    obtain ⟨l1, l2, rfl, h1, h2⟩ := h.split
    exact ⟨v :: l1, l2, rfl, ⟨v, l1, rfl, hv, h1⟩, h2⟩

theorem KdVs.append : ∀ {ks ks' : List Kd} {l l' : List Value}, KdVs ks l → KdVs ks' l' → KdVs (ks ++ ks') (l ++ l')
  | [], ks', l, l', h, h' => by simp only [KdVs] at h; subst h; exact h'
  | k :: r, ks', l, l', h, h' => by obtain ⟨v, l1, rfl, hv, h⟩ := h; exact ⟨v, l1 ++ l', rfl, hv, h.append h'⟩

def isAggD : Option TypeDesc → Bool
  | some (.array ..) | some (.struct ..) => true
  | _ => false

def Fits (P : Program) (t : TypeId) (v : Value) (xs : List Value) : Prop := if isAggD (P.underlying t) then v = .agg xs.toArray else xs = [v]

theorem run_part_fit {e : TypeId} {kd : TypeDesc} {arr : Array Value} {pre c post : List Value} {off : Nat} (hu : P.underlying e = some kd) (ha : arr.toList = pre ++ c ++ post) (hp : pre.length = off) (hi : (P.info? e).isSome = true) (hc : szOf P e = c.length)
    (h1 : isAggD (P.underlying e) = false → ∃ v, c = [v]) : ∃ v, (part e arr off).run P w = .ok v w ∧ Fits P e v c := by
  have hx : (arr.extract off (off + c.length)) = c.toArray := by
    apply Array.ext'
    rw [Array.toList_extract, ha]
    subst hp
    simp [List.extract]
  by_cases hg : isAggD (P.underlying e) = true
  · refine ⟨.agg c.toArray, ?_, by simp [Fits, hg]⟩
    rw [hu] at hg
    cases kd <;> simp [isAggD] at hg <;> simp [part, isAgg, run_underlying hu, run_sizeOf hi, hc, hx]
  · have hg' : isAggD (P.underlying e) = false := by simpa using hg
    obtain ⟨v, rfl⟩ := h1 hg'
    refine ⟨v, ?_, by simp [Fits, hg]⟩
    have hv : arr[off]? = some v := by
      rw [← Array.getElem?_toList, ha]
      subst hp
      simp
    rw [hu] at hg'
    cases kd <;> simp [isAggD] at hg' <;> simp [part, isAgg, run_underlying hu, hv]

def EqT (P : Program) (dd : Nat) (t : TypeId) (ks : List Kd) : Prop :=
  ∀ (w : World) (x y : Value) (xs ys : List Value), KdVs ks xs → KdVs ks ys → Fits P t x xs → Fits P t y ys → (Op.equalIn dd t x y).run P w = .ok (decide (xs = ys)) w

theorem kds_scalar {d : Nat} {t : TypeId} {ks : List Kd} (h : kds P d t = some ks) : (∃ kd, P.underlying t = some kd) ∧ (isAggD (P.underlying t) = false → ∀ c, KdVs ks c → ∃ v, c = [v]) := by
  cases d with
  | zero => simp [kds] at h
  | succ d =>
    unfold kds at h
    split at h
    · rename_i k hu
      cases h
      refine ⟨⟨_, hu⟩, fun _ c hc => ?_⟩
      obtain ⟨v, l, rfl, _, rfl⟩ := hc
      exact ⟨v, rfl⟩
    · rename_i hu
      cases h
      refine ⟨⟨_, hu⟩, fun _ c hc => ?_⟩
      obtain ⟨v, l, rfl, _, rfl⟩ := hc
      exact ⟨v, rfl⟩
    · rename_i n e hu
      exact ⟨⟨_, hu⟩, fun hg => by rw [hu] at hg; simp [isAggD] at hg⟩
    · rename_i fs hu
      exact ⟨⟨_, hu⟩, fun hg => by rw [hu] at hg; simp [isAggD] at hg⟩
    · cases h

theorem app_dec {a b c d : List Value} (h : a.length = b.length) : decide (a ++ c = b ++ d) = (decide (a = b) && decide (c = d)) := by
  by_cases h1 : a = b
  · subst h1
    simp
  · have : ¬ (a ++ c = b ++ d) := fun e => h1 (List.append_inj e h).1
    simp [h1, this]

theorem run_items {dd : Nat} {e : TypeId} {ks : List Kd} (IH : EqT P dd e ks) (hk : ∃ d, kds P d e = some ks) (hi : (P.info? e).isSome = true) (hs : szOf P e = ks.length) (ax ay : Array Value) :
    ∀ (n i : Nat) (prex prey xs ys : List Value), KdVs (repl ks n) xs → KdVs (repl ks n) ys → ax.toList = prex ++ xs → ay.toList = prey ++ ys → prex.length = i * ks.length → prey.length = i * ks.length →
      (Op.eqItems dd e ks.length ax ay (List.range' i n)).run P w = .ok (decide (xs = ys)) w
  | 0, i, prex, prey, xs, ys, hx, hy, _, _, _, _ => by
    simp only [repl, KdVs] at hx hy
    subst hx; subst hy
    simp [Op.eqItems]
  | n + 1, i, prex, prey, xs, ys, hx, hy, ex, ey, lx, ly => by
    obtain ⟨x1, x2, rfl, hx1, hx2⟩ := KdVs.split (show KdVs (ks ++ repl ks n) xs from hx)
    obtain ⟨y1, y2, rfl, hy1, hy2⟩ := KdVs.split (show KdVs (ks ++ repl ks n) ys from hy)
    obtain ⟨d, hd⟩ := hk
    obtain ⟨⟨kd, hu⟩, h1⟩ := kds_scalar hd
    obtain ⟨a, pa, fa⟩ := run_part_fit w (pre := prex) (c := x1) (post := x2) hu (by simpa using ex) lx hi (by rw [hs, hx1.length]) (fun hg => h1 hg _ hx1)
    obtain ⟨b, pb, fb⟩ := run_part_fit w (pre := prey) (c := y1) (post := y2) hu (by simpa using ey) ly hi (by rw [hs, hy1.length]) (fun hg => h1 hg _ hy1)
    have he := IH w a b x1 y1 hx1 hy1 fa fb
    have ih := run_items IH ⟨d, hd⟩ hi hs ax ay n (i + 1) (prex ++ x1) (prey ++ y1) x2 y2 hx2 hy2 (by simpa using ex) (by simpa using ey) (by simp [lx, hx1.length, Nat.succ_mul]) (by simp [ly, hy1.length, Nat.succ_mul])
    rw [List.range'_succ]
    simp only [Op.eqItems, Sem.run_bind, pa, pb, he, Result.andThen_ok]
    rw [app_dec (by rw [hx1.length, hy1.length])]
    by_cases hxy : x1 = y1
    · simp [hxy, ih]
    · simp [hxy]

theorem run_fields {dd d : Nat} (IH : ∀ t ks, kds P d t = some ks → EqT P dd t ks) (ax ay : Array Value) :
    ∀ (fs : List Field) (off : Nat) (ks : List Kd) (prex prey xs ys : List Value), kdsF P (kds P d) off fs = some ks → KdVs ks xs → KdVs ks ys → ax.toList = prex ++ xs → ay.toList = prey ++ ys → prex.length = off → prey.length = off →
      (Op.eqFields dd ax ay fs).run P w = .ok (decide (xs = ys)) w
  | [], off, ks, prex, prey, xs, ys, hk, hx, hy, _, _, _, _ => by
    simp only [kdsF, Option.some.injEq] at hk
    subst hk
    simp only [KdVs] at hx hy
    subst hx; subst hy
    simp [Op.eqFields]
  | f :: fs, off, ks, prex, prey, xs, ys, hk, hx, hy, ex, ey, lx, ly => by
    unfold kdsF at hk
    split at hk
    · rename_i l hl
      split at hk
      · rename_i hc
        obtain ⟨hn, ho, hi, hs⟩ := hc
        simp only [Option.map_eq_some_iff] at hk
        obtain ⟨r, hr, rfl⟩ := hk
        obtain ⟨x1, x2, rfl, hx1, hx2⟩ := KdVs.split hx
        obtain ⟨y1, y2, rfl, hy1, hy2⟩ := KdVs.split hy
        obtain ⟨⟨kd, hu⟩, h1⟩ := kds_scalar hl
        obtain ⟨a, pa, fa⟩ := run_part_fit w (off := f.offset) (pre := prex) (c := x1) (post := x2) hu (by simpa using ex) (by rw [lx, ho]) hi (by rw [hs, hx1.length]) (fun hg => h1 hg _ hx1)
        obtain ⟨b, pb, fb⟩ := run_part_fit w (off := f.offset) (pre := prey) (c := y1) (post := y2) hu (by simpa using ey) (by rw [ly, ho]) hi (by rw [hs, hy1.length]) (fun hg => h1 hg _ hy1)
        have he := IH _ _ hl w a b x1 y1 hx1 hy1 fa fb
        have ih := run_fields IH ax ay fs (off + l.length) r (prex ++ x1) (prey ++ y1) x2 y2 hr hx2 hy2 (by simpa using ex) (by simpa using ey) (by simp [lx, hx1.length]) (by simp [ly, hy1.length])
        simp only [Op.eqFields, hn, ne_eq, not_false_eq_true, if_true, Sem.run_bind, pa, pb, he, Result.andThen_ok]
        rw [app_dec (by rw [hx1.length, hy1.length])]
        by_cases hxy : x1 = y1
        · simp [hxy, ih]
        · simp [hxy]
      · cases hk
    · cases hk

theorem run_eqT : ∀ (d : Nat) (t : TypeId) (ks : List Kd), kds P d t = some ks → ∀ dd, EqT P (dd + d) t ks
  | 0, _, _, h => by simp [kds] at h
  | d + 1, t, ks, h => by
    intro dd w x y xs ys hx hy fx fy
    have h0 := h
    unfold kds at h
    split at h
    · rename_i k hu
      cases h
      obtain ⟨a, l, rfl, ⟨n, rfl⟩, hl⟩ := hx
      simp only [KdVs] at hl
      subst hl
      obtain ⟨b, l, rfl, ⟨m, rfl⟩, hl⟩ := hy
      simp only [KdVs] at hl
      subst hl
      simp [Fits, hu, isAggD] at fx fy
      subst fx; subst fy
      rw [show dd + (d + 1) = (dd + d) + 1 from rfl, run_equalIn_int w (dd + d) t k k n m hu]
      congr 1
      simp [BEq.beq]
    · rename_i hu
      cases h
      obtain ⟨a, l, rfl, ⟨n, rfl⟩, hl⟩ := hx
      simp only [KdVs] at hl
      subst hl
      obtain ⟨b, l, rfl, ⟨m, rfl⟩, hl⟩ := hy
      simp only [KdVs] at hl
      subst hl
      simp [Fits, hu, isAggD] at fx fy
      subst fx; subst fy
      rw [show dd + (d + 1) = (dd + d) + 1 from rfl, run_equalIn_bool w (dd + d) t n m hu]
      congr 1
      simp [BEq.beq]
    · rename_i n e hu
      split at h
      · rename_i l hl
        split at h
        · rename_i hc
          cases h
          simp [Fits, hu, isAggD] at fx fy
          subst fx; subst fy
          obtain ⟨i, hi⟩ := Option.isSome_iff_exists.1 hc.1
          have hcell : P.cellsOf e = l.length := by rw [← hc.2]; simp [Program.cellsOf, szOf, hi]
          rw [show dd + (d + 1) = (dd + d) + 1 from rfl, run_equalIn_array w (dd + d) _ _ hu hi, hcell, List.range_eq_range']
          exact run_items w (run_eqT d e l hl dd) ⟨d, hl⟩ hc.1 hc.2 _ _ n 0 [] [] xs ys hx hy (by simp) (by simp) (by simp) (by simp)
        · cases h
      · cases h
    · rename_i fs hu
      split at h
      · cases h
      · rename_i hp
        simp [Fits, hu, isAggD] at fx fy
        subst fx; subst fy
        have hfs : P.fieldsOf t = fs := by simp [Program.fieldsOf, hu]
        rw [show dd + (d + 1) = (dd + d) + 1 from rfl, run_equalIn_struct w (dd + d) t _ _ (by rw [hfs]; exact hu) (by simpa using hp), hfs]
        exact run_fields w (fun t ks hk => run_eqT d t ks hk dd) _ _ fs.toList 0 ks [] [] xs ys h hx hy (by simp) (by simp) (by simp) (by simp)
    · cases h

/-! ### from what the words say -/

theorem KdVs_ints (k : IntKind) : ∀ (xs : List Int), KdVs (List.replicate xs.length (.int k)) (xs.map (Value.int k))
  | [] => rfl
  | x :: r => ⟨_, _, rfl, ⟨x, rfl⟩, KdVs_ints k r⟩
theorem KdVs_bools : ∀ (xs : List Bool), KdVs (List.replicate xs.length .bool) (xs.map Value.bool)
  | [] => rfl
  | x :: r => ⟨_, _, rfl, ⟨x, rfl⟩, KdVs_bools r⟩

theorem map_int_inj {k : IntKind} : ∀ {xs ys : List Int}, xs.map (Value.int k) = ys.map (Value.int k) ↔ xs = ys
  | [], [] => by simp
  | [], _ :: _ => by simp
  | _ :: _, [] => by simp
  | x :: xs, y :: ys => by simp [map_int_inj (xs := xs)]
theorem map_bool_inj : ∀ {xs ys : List Bool}, xs.map Value.bool = ys.map Value.bool ↔ xs = ys
  | [], [] => by simp
  | [], _ :: _ => by simp
  | _ :: _, [] => by simp
  | x :: xs, y :: ys => by simp [map_bool_inj (xs := xs)]

theorem eqSegs_rel {ρ : Rho} : ∀ {gs hs : Segs} {s s' : Nat} {xs ys : List Value} {r : Bool}, eqSegs gs hs = some r → RelSegs ρ s gs xs → RelSegs ρ s' hs ys →
    KdVs (kdsSg (shapes gs)) xs ∧ KdVs (kdsSg (shapes gs)) ys ∧ r = decide (xs = ys)
  | [], [], s, s', xs, ys, r, h, hx, hy => by
    simp only [eqSegs, Option.some.injEq] at h
    simp only [RelSegs] at hx hy
    subst h; subst hx; subst hy
    exact ⟨rfl, rfl, by simp⟩
  | [], _ :: _, s, s', xs, ys, r, h, hx, hy => by simp [eqSegs] at h
  | _ :: _, [], s, s', xs, ys, r, h, hx, hy => by simp [eqSegs] at h
  | (st, g) :: gs, (st', g') :: hs, s, s', xs, ys, r, h, hx, hy => by
    unfold eqSegs at h
    split at h
    · rename_i b hb
      split at h
      · rename_i b' hb'
        simp only [Option.some.injEq] at h
        subst h
        obtain ⟨_, x1, x2, rfl, hx1, hx2⟩ := hx
        obtain ⟨_, y1, y2, rfl, hy1, hy2⟩ := hy
        obtain ⟨k1, k2, rfl⟩ := eqSegs_rel hb' hx2 hy2
        cases g with
        | ints k n as =>
          cases g' with
          | ints k' n' bs =>
            simp only [eqSg] at hb
            split at hb
            · rename_i hc
              obtain ⟨rfl, rfl⟩ := hc
              simp only [Option.some.injEq] at hb
              subst hb
              simp only [RelSg] at hx1 hy1
              obtain ⟨e1, rfl⟩ := hx1
              obtain ⟨e2, rfl⟩ := hy1
              refine ⟨?_, ?_, ?_⟩
              · simp only [shapes, kdsSg]; rw [← e1]; exact (KdVs_ints k as).append k1
              · simp only [shapes, kdsSg]; rw [← e2]; exact (KdVs_ints k bs).append k2
              · rw [app_dec (by simp [e1, e2])]; simp [map_int_inj]
            · cases hb
          | bools => simp [eqSg] at hb
          | cells => simp [eqSg] at hb
        | bools n as =>
          cases g' with
          | bools n' bs =>
            simp only [eqSg] at hb
            split at hb
            · rename_i hc
              subst hc
              simp only [Option.some.injEq] at hb
              subst hb
              simp only [RelSg] at hx1 hy1
              obtain ⟨e1, rfl⟩ := hx1
              obtain ⟨e2, rfl⟩ := hy1
              refine ⟨?_, ?_, ?_⟩
              · simp only [shapes, kdsSg]; rw [← e1]; exact (KdVs_bools as).append k1
              · simp only [shapes, kdsSg]; rw [← e2]; exact (KdVs_bools bs).append k2
              · rw [app_dec (by simp [e1, e2])]; simp [map_bool_inj]
            · cases hb
          | ints => simp [eqSg] at hb
          | cells => simp [eqSg] at hb
        | cells n as => simp [eqSg] at hb
      · cases h
    · cases h

theorem agg_eq {ρ : Rho} {t : TypeId} {gs hs : Segs} {xs ys : List Value} {r : Bool} (ht : eqTy P t (shapes gs) = true) (h : eqSegs gs hs = some r) (hx : RelSegs ρ 0 gs xs) (hy : RelSegs ρ 0 hs ys) :
    P.eqGuardType P.depth t = false ∧ (Op.equalIn 10000 t (.agg xs.toArray) (.agg ys.toArray)).run P w = .ok r w := by
  obtain ⟨k1, k2, rfl⟩ := eqSegs_rel h hx hy
  simp only [eqTy, Bool.and_eq_true, decide_eq_true_eq, Bool.not_eq_true'] at ht
  obtain ⟨⟨h1, h2⟩, h3⟩ := ht
  have hg : isAggD (P.underlying t) = true := by
    revert h3
    cases P.underlying t with
    | none => simp
    | some d => cases d <;> simp [isAggD]
  exact ⟨h2, run_eqT 6 t _ h1 9994 w _ _ xs ys k1 k2 (by simp [Fits, hg]) (by simp [Fits, hg])⟩
end Go.Abs

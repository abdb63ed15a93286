/- Contracts over this translation, two models: where two sections part; first; Itoa of small numbers. -/
import Derived.Test.YthphhogljniofaaDoorXKdx12
import Derived.Test.YthphhogljniofaaDoorXKdM17D
namespace Go.Proofs.YthphhogljniofaaDoor
set_option linter.unusedVariables false
set_option linter.unusedSimpArgs false
open Go.RowKit Go.Proofs.YthphhogljniofaaDoorX.Kd Go.Proofs.YthphhogljniofaaDoorW.PrintWords Go.Proofs.YthphhogljniofaaDoorW.PrintLast Go.Proofs.YthphhogljniofaaDoorW.PrintMore

noncomputable def eqC {α : Type} (x y : α) : Bool := @decide (x = y) (Classical.propDecidable _)
theorem eqC_iff {α : Type} {x y : α} : eqC x y = true ↔ x = y := by unfold eqC; exact @decide_eq_true_iff _ (Classical.propDecidable _)
theorem eqC_true {α : Type} {x y : α} (h : x = y) : eqC x y = true := eqC_iff.2 h
theorem eqC_false {α : Type} {x y : α} (h : x ≠ y) : eqC x y = false := Bool.eq_false_iff.2 (fun h2 => h (eqC_iff.1 h2))
theorem eqC_comm {α : Type} (x y : α) : eqC x y = eqC y x := by
  by_cases h : x = y
  · rw [h]
  · rw [eqC_false h, eqC_false (Ne.symm h)]
theorem ba_list_eq {a b : ByteArray} : (a.toList == b.toList) = true ↔ a = b := by
  rw [beq_iff_eq, Lib.toList_data, Lib.toList_data]
  constructor
  · intro h
    cases a; cases b
    rw [Array.toList_inj] at h
    exact congrArg _ h
  · intro h; rw [h]
theorem ba_toList_inj {a b : ByteArray} : a.toList = b.toList ↔ a = b := by rw [← ba_list_eq, beq_iff_eq]
theorem ba_list_eqC (a b : ByteArray) : (a.toList == b.toList) = eqC a b := by
  by_cases h : a = b
  · rw [eqC_true h]; exact ba_list_eq.2 h
  · rw [eqC_false h]; exact Bool.eq_false_iff.2 (fun h2 => h (ba_list_eq.1 h2))
theorem eqS_ne (x y : S61) : (!(x.f0.toList == y.f0.toList) || (!(x.f1 == y.f1) || (!(x.f2 == y.f2) || (!(x.f3 == y.f3) || (!(x.f4 == y.f4) || (!(x.f5 == y.f5) || (!(x.f6 == y.f6)))))))) = true ↔ x ≠ y := by
  constructor
  · intro h he
    subst he
    simp at h
  · intro h
    refine Classical.byContradiction fun h0 => ?_
    have h2 := Bool.eq_false_iff.2 h0
    apply h
    simp only [Bool.or_eq_false_iff, Bool.not_eq_false', beq_iff_eq, ba_toList_inj] at h2
    cases x; cases y
    simp only at h2
    obtain ⟨rfl, rfl, rfl, rfl, rfl, rfl, rfl⟩ := h2
    rfl
theorem eqS_ev_l (xs ys : List S61) (hl : xs.length = ys.length) (hn : xs.length ≤ 9223372036854775807) : ∀ d i : Nat, i + d = xs.length → Ev (fun k => model_Symbol_38.l0 k xs ys (xs.length : Int) (i : Int)) (eqC (xs.drop i) (ys.drop i)) := by
  intro d
  induction d with
  | zero =>
    intro i hi
    have hlt : ¬ ((i : Int) < (xs.length : Int)) := by omega
    refine Ev.step (f := fun _ => some true) (fun k => ?_) ?_
    · simp only [model_Symbol_38.l0, if_neg hlt]
    · rw [eqC_true (by rw [List.drop_eq_nil_of_le (by omega), List.drop_eq_nil_of_le (by omega)])]
      exact Ev.now _
  | succ d ih =>
    intro i hi
    have hx : i < xs.length := by omega
    have hy : i < ys.length := by omega
    have h1 : (i : Int) < (xs.length : Int) := by omega
    have h2 : (i : Int) < (ys.length : Int) := by omega
    have h0 : (0 : Int) ≤ (i : Int) := by omega
    have hw : wrap64 ((i : Int) + 1) = ((i + 1 : Nat) : Int) := by unfold wrap64; omega
    have r1 : rd_T61 xs (i : Int) = xs[i] := by unfold rd_T61; rw [Int.toNat_natCast]; simp [List.getD, hx]
    have r2 : rd_T61 ys (i : Int) = ys[i] := by unfold rd_T61; rw [Int.toNat_natCast]; simp [List.getD, hy]
    by_cases he : xs[i] = ys[i]
    · refine Ev.step (f := fun k => model_Symbol_38.l0 k xs ys (xs.length : Int) ((i + 1 : Nat) : Int)) (fun k => ?_) ?_
      · simp only [model_Symbol_38.l0, if_pos h1, if_pos h0, if_pos h2, r1, r2, hw]
        rw [if_neg (fun h => (eqS_ne xs[i] ys[i]).1 h he)]
      · have hd : eqC (xs.drop i) (ys.drop i) = eqC (xs.drop (i + 1)) (ys.drop (i + 1)) := by
          rw [List.drop_eq_getElem_cons hx, List.drop_eq_getElem_cons hy]
          by_cases h : xs.drop (i + 1) = ys.drop (i + 1)
          · rw [eqC_true h, eqC_true (by rw [h, he])]
          · rw [eqC_false h, eqC_false (fun h3 => h (List.cons.inj h3).2)]
        rw [hd]
        exact ih (i + 1) (by omega)
    · refine Ev.step (f := fun _ => some false) (fun k => ?_) ?_
      · simp only [model_Symbol_38.l0, if_pos h1, if_pos h0, if_pos h2, r1, r2]
        rw [if_pos ((eqS_ne xs[i] ys[i]).2 he)]
      · rw [eqC_false (by
          rw [List.drop_eq_getElem_cons hx, List.drop_eq_getElem_cons hy]
          exact fun h3 => he (List.cons.inj h3).1)]
        exact Ev.now _
theorem eqS_ev (xs ys : List S61) (hn : xs.length ≤ 9223372036854775807) : Ev (fun k => model_Symbol_38.f k xs ys) (eqC xs ys) := by
  by_cases hl : xs.length = ys.length
  · have hl2 : (xs.length : Int) = (ys.length : Int) := by omega
    have h := eqS_ev_l xs ys hl hn xs.length 0 (by omega)
    refine Ev.congr (fun k => ?_) h
    simp only [model_Symbol_38.f, if_pos hl2]
    rfl
  · have hl2 : ¬ ((xs.length : Int) = (ys.length : Int)) := by omega
    rw [eqC_false (fun h => hl (by rw [h]))]
    refine Ev.congr (f := fun _ => some false) (fun k => ?_) (Ev.now _)
    simp only [model_Symbol_38.f, if_neg hl2]
theorem eqR_ne (x y : S63) : (!(x.f0 == y.f0) || (!(x.f1 == y.f1) || (!(x.f2 == y.f2) || (!(x.f3 == y.f3))))) = true ↔ x ≠ y := by
  constructor
  · intro h he
    subst he
    simp at h
  · intro h
    refine Classical.byContradiction fun h0 => ?_
    have h2 := Bool.eq_false_iff.2 h0
    apply h
    simp only [Bool.or_eq_false_iff, Bool.not_eq_false', beq_iff_eq, ba_toList_inj] at h2
    cases x; cases y
    simp only at h2
    obtain ⟨rfl, rfl, rfl, rfl⟩ := h2
    rfl
theorem eqR_ev_l (xs ys : List S63) (hl : xs.length = ys.length) (hn : xs.length ≤ 9223372036854775807) : ∀ d i : Nat, i + d = xs.length → Ev (fun k => relrec_Reloc_39.l0 k xs ys (xs.length : Int) (i : Int)) (eqC (xs.drop i) (ys.drop i)) := by
  intro d
  induction d with
  | zero =>
    intro i hi
    have hlt : ¬ ((i : Int) < (xs.length : Int)) := by omega
    refine Ev.step (f := fun _ => some true) (fun k => ?_) ?_
    · simp only [relrec_Reloc_39.l0, if_neg hlt]
    · rw [eqC_true (by rw [List.drop_eq_nil_of_le (by omega), List.drop_eq_nil_of_le (by omega)])]
      exact Ev.now _
  | succ d ih =>
    intro i hi
    have hx : i < xs.length := by omega
    have hy : i < ys.length := by omega
    have h1 : (i : Int) < (xs.length : Int) := by omega
    have h2 : (i : Int) < (ys.length : Int) := by omega
    have h0 : (0 : Int) ≤ (i : Int) := by omega
    have hw : wrap64 ((i : Int) + 1) = ((i + 1 : Nat) : Int) := by unfold wrap64; omega
    have r1 : rd_T63 xs (i : Int) = xs[i] := by unfold rd_T63; rw [Int.toNat_natCast]; simp [List.getD, hx]
    have r2 : rd_T63 ys (i : Int) = ys[i] := by unfold rd_T63; rw [Int.toNat_natCast]; simp [List.getD, hy]
    by_cases he : xs[i] = ys[i]
    · refine Ev.step (f := fun k => relrec_Reloc_39.l0 k xs ys (xs.length : Int) ((i + 1 : Nat) : Int)) (fun k => ?_) ?_
      · simp only [relrec_Reloc_39.l0, if_pos h1, if_pos h0, if_pos h2, r1, r2, hw]
        rw [if_neg (fun h => (eqR_ne xs[i] ys[i]).1 h he)]
      · have hd : eqC (xs.drop i) (ys.drop i) = eqC (xs.drop (i + 1)) (ys.drop (i + 1)) := by
          rw [List.drop_eq_getElem_cons hx, List.drop_eq_getElem_cons hy]
          by_cases h : xs.drop (i + 1) = ys.drop (i + 1)
          · rw [eqC_true h, eqC_true (by rw [h, he])]
          · rw [eqC_false h, eqC_false (fun h3 => h (List.cons.inj h3).2)]
        rw [hd]
        exact ih (i + 1) (by omega)
    · refine Ev.step (f := fun _ => some false) (fun k => ?_) ?_
      · simp only [relrec_Reloc_39.l0, if_pos h1, if_pos h0, if_pos h2, r1, r2]
        rw [if_pos ((eqR_ne xs[i] ys[i]).2 he)]
      · rw [eqC_false (by
          rw [List.drop_eq_getElem_cons hx, List.drop_eq_getElem_cons hy]
          exact fun h3 => he (List.cons.inj h3).1)]
        exact Ev.now _
theorem eqR_ev (xs ys : List S63) (hn : xs.length ≤ 9223372036854775807) : Ev (fun k => relrec_Reloc_39.f k xs ys) (eqC xs ys) := by
  by_cases hl : xs.length = ys.length
  · have hl2 : (xs.length : Int) = (ys.length : Int) := by omega
    have h := eqR_ev_l xs ys hl hn xs.length 0 (by omega)
    refine Ev.congr (fun k => ?_) h
    simp only [relrec_Reloc_39.f, if_pos hl2]
    rfl
  · have hl2 : ¬ ((xs.length : Int) = (ys.length : Int)) := by omega
    rw [eqC_false (fun h => hl (by rw [h]))]
    refine Ev.congr (f := fun _ => some false) (fun k => ?_) (Ev.now _)
    simp only [relrec_Reloc_39.f, if_neg hl2]
theorem eqI_ne (x y : Int) : (x != y) = true ↔ x ≠ y := by
  exact bne_iff_ne
theorem eqI_ev_l (xs ys : List Int) (hl : xs.length = ys.length) (hn : xs.length ≤ 9223372036854775807) : ∀ d i : Nat, i + d = xs.length → Ev (fun k => slices_Equal_uint64_uint64.l0 k xs ys (xs.length : Int) (i : Int)) (eqC (xs.drop i) (ys.drop i)) := by
  intro d
  induction d with
  | zero =>
    intro i hi
    have hlt : ¬ ((i : Int) < (xs.length : Int)) := by omega
    refine Ev.step (f := fun _ => some true) (fun k => ?_) ?_
    · simp only [slices_Equal_uint64_uint64.l0, if_neg hlt]
    · rw [eqC_true (by rw [List.drop_eq_nil_of_le (by omega), List.drop_eq_nil_of_le (by omega)])]
      exact Ev.now _
  | succ d ih =>
    intro i hi
    have hx : i < xs.length := by omega
    have hy : i < ys.length := by omega
    have h1 : (i : Int) < (xs.length : Int) := by omega
    have h2 : (i : Int) < (ys.length : Int) := by omega
    have h0 : (0 : Int) ≤ (i : Int) := by omega
    have hw : wrap64 ((i : Int) + 1) = ((i + 1 : Nat) : Int) := by unfold wrap64; omega
    have r1 : rd xs (i : Int) = xs[i] := by unfold rd; rw [Int.toNat_natCast]; simp [hx]
    have r2 : rd ys (i : Int) = ys[i] := by unfold rd; rw [Int.toNat_natCast]; simp [hy]
    by_cases he : xs[i] = ys[i]
    · refine Ev.step (f := fun k => slices_Equal_uint64_uint64.l0 k xs ys (xs.length : Int) ((i + 1 : Nat) : Int)) (fun k => ?_) ?_
      · simp only [slices_Equal_uint64_uint64.l0, if_pos h1, if_pos h0, if_pos h2, r1, r2, hw]
        rw [if_pos he]
      · have hd : eqC (xs.drop i) (ys.drop i) = eqC (xs.drop (i + 1)) (ys.drop (i + 1)) := by
          rw [List.drop_eq_getElem_cons hx, List.drop_eq_getElem_cons hy]
          by_cases h : xs.drop (i + 1) = ys.drop (i + 1)
          · rw [eqC_true h, eqC_true (by rw [h, he])]
          · rw [eqC_false h, eqC_false (fun h3 => h (List.cons.inj h3).2)]
        rw [hd]
        exact ih (i + 1) (by omega)
    · refine Ev.step (f := fun _ => some false) (fun k => ?_) ?_
      · simp only [slices_Equal_uint64_uint64.l0, if_pos h1, if_pos h0, if_pos h2, r1, r2]
        rw [if_neg he]
      · rw [eqC_false (by
          rw [List.drop_eq_getElem_cons hx, List.drop_eq_getElem_cons hy]
          exact fun h3 => he (List.cons.inj h3).1)]
        exact Ev.now _
theorem eqI_ev (xs ys : List Int) (hn : xs.length ≤ 9223372036854775807) : Ev (fun k => slices_Equal_uint64_uint64.f k xs ys) (eqC xs ys) := by
  by_cases hl : xs.length = ys.length
  · have hl2 : (xs.length : Int) = (ys.length : Int) := by omega
    have h := eqI_ev_l xs ys hl hn xs.length 0 (by omega)
    refine Ev.congr (fun k => ?_) h
    simp only [slices_Equal_uint64_uint64.f, if_pos hl2]
    rfl
  · have hl2 : ¬ ((xs.length : Int) = (ys.length : Int)) := by omega
    rw [eqC_false (fun h => hl (by rw [h]))]
    refine Ev.congr (f := fun _ => some false) (fun k => ?_) (Ev.now _)
    simp only [slices_Equal_uint64_uint64.f, if_neg hl2]
/-- The first part that isn't the same. -/
def firstR : List S90 → ByteArray
  | [] => ⟨#[]⟩
  | p :: r => if p.f1 = true then firstR r else p.f0
theorem first_ev_l (L : List S90) (hn : L.length ≤ 9223372036854775807) : ∀ d i : Nat, i + d = L.length → Ev (fun k => same_first.l0 k L (L.length : Int) (i : Int)) (firstR (L.drop i)) := by
  intro d
  induction d with
  | zero =>
    intro i hi
    have hlt : ¬ ((i : Int) < (L.length : Int)) := by omega
    refine Ev.step (f := fun _ => some ⟨#[]⟩) (fun k => ?_) ?_
    · simp only [same_first.l0, if_neg hlt]
    · rw [List.drop_eq_nil_of_le (by omega)]
      exact Ev.now _
  | succ d ih =>
    intro i hi
    have hx : i < L.length := by omega
    have h1 : (i : Int) < (L.length : Int) := by omega
    have h0 : (0 : Int) ≤ (i : Int) := by omega
    have hw : wrap64 ((i : Int) + 1) = ((i + 1 : Nat) : Int) := by unfold wrap64; omega
    have r1 : rd_T90 L (i : Int) = L[i] := by unfold rd_T90; rw [Int.toNat_natCast]; simp [List.getD, hx]
    rw [List.drop_eq_getElem_cons hx]
    by_cases he : L[i].f1 = true
    · refine Ev.step (f := fun k => same_first.l0 k L (L.length : Int) ((i + 1 : Nat) : Int)) (fun k => ?_) ?_
      · simp only [same_first.l0, if_pos h1, if_pos h0, r1, hw, if_pos he]
      · unfold firstR
        rw [if_pos he]
        exact ih (i + 1) (by omega)
    · refine Ev.step (f := fun _ => some L[i].f0) (fun k => ?_) ?_
      · simp only [same_first.l0, if_pos h1, if_pos h0, r1, if_neg he]
      · unfold firstR
        rw [if_neg he]
        exact Ev.now _
theorem first_ev (L : List S90) (hn : L.length ≤ 9223372036854775807) : Ev (fun k => same_first.f k L) (firstR L) := first_ev_l L hn L.length 0 (by omega)
noncomputable def headsR (x y : S58) : Bool := eqC (x.f1, x.f2, x.f3, x.f4, x.f5, x.f6, x.f7, x.f8) (y.f1, y.f2, y.f3, y.f4, y.f5, y.f6, y.f7, y.f8)
theorem heads_f (x y : S58) : same_heads.f x.f0 x.f1 x.f2 x.f3 x.f4 x.f5 x.f6 x.f7 x.f8 x.f9 x.f10 x.f11 x.f12 y.f0 y.f1 y.f2 y.f3 y.f4 y.f5 y.f6 y.f7 y.f8 y.f9 y.f10 y.f11 y.f12 = some (headsR x y) := by
  unfold same_heads.f headsR
  by_cases h1 : x.f1 = y.f1
  · by_cases h2 : x.f2 = y.f2
    · by_cases h3 : x.f3 = y.f3
      · by_cases h4 : x.f4 = y.f4
        · by_cases h5 : x.f5 = y.f5
          · by_cases h6 : x.f6 = y.f6
            · by_cases h7 : x.f7 = y.f7
              · rw [if_pos h1, if_pos h2, if_pos h3, if_pos h4, if_pos h5, if_pos h6, if_pos h7, h1, h2, h3, h4, h5, h6, h7]
                by_cases h8 : x.f8 = y.f8
                · rw [eqC_true (by rw [h8]), h8]; simp
                · rw [eqC_false (fun h => h8 (by simpa using h))]; simp [h8]
              · rw [if_pos h1, if_pos h2, if_pos h3, if_pos h4, if_pos h5, if_pos h6, if_neg h7, eqC_false (fun h => h7 (by simp only [Prod.mk.injEq] at h; exact h.2.2.2.2.2.2.1))]
            · rw [if_pos h1, if_pos h2, if_pos h3, if_pos h4, if_pos h5, if_neg h6, eqC_false (fun h => h6 (by simp only [Prod.mk.injEq] at h; exact h.2.2.2.2.2.1))]
          · rw [if_pos h1, if_pos h2, if_pos h3, if_pos h4, if_neg h5, eqC_false (fun h => h5 (by simp only [Prod.mk.injEq] at h; exact h.2.2.2.2.1))]
        · rw [if_pos h1, if_pos h2, if_pos h3, if_neg h4, eqC_false (fun h => h4 (by simp only [Prod.mk.injEq] at h; exact h.2.2.2.1))]
      · rw [if_pos h1, if_pos h2, if_neg h3, eqC_false (fun h => h3 (by simp only [Prod.mk.injEq] at h; exact h.2.2.1))]
    · rw [if_pos h1, if_neg h2, eqC_false (fun h => h2 (by simp only [Prod.mk.injEq] at h; exact h.2.1))]
  · rw [if_neg h1, eqC_false (fun h => h1 (by simp only [Prod.mk.injEq] at h; exact h.1))]
/-- Where two sections part. -/
noncomputable def whereR (x y : S58) : ByteArray := firstR [⟨⟨#[110, 97, 109, 101]⟩, eqC x.f0 y.f0⟩, ⟨⟨#[104, 101, 97, 100, 101, 114]⟩, headsR x y⟩, ⟨⟨#[100, 97, 116, 97]⟩, eqC x.f9 y.f9⟩, ⟨⟨#[115, 121, 109, 98, 111, 108, 115]⟩, eqC x.f10 y.f10⟩, ⟨⟨#[114, 101, 108, 111, 99, 97, 116, 105, 111, 110, 115]⟩, eqC x.f11 y.f11⟩, ⟨⟨#[109, 101, 109, 98, 101, 114, 115]⟩, eqC x.f12 y.f12⟩]
theorem where_ev (x y : S58) (h10 : x.f10.length ≤ 9223372036854775807) (h11 : x.f11.length ≤ 9223372036854775807) (h12 : x.f12.length ≤ 9223372036854775807) : Ev (fun k => same_where.f k x.f0 x.f1 x.f2 x.f3 x.f4 x.f5 x.f6 x.f7 x.f8 x.f9 x.f10 x.f11 x.f12 y.f0 y.f1 y.f2 y.f3 y.f4 y.f5 y.f6 y.f7 y.f8 y.f9 y.f10 y.f11 y.f12) (whereR x y) := by
  unfold same_where.f
  simp only [heads_f, Option.bind_some, ba_list_eqC]
  refine Ev.bind (eqS_ev x.f10 y.f10 h10) ?_
  refine Ev.bind (eqR_ev x.f11 y.f11 h11) ?_
  refine Ev.bind (eqI_ev x.f12 y.f12 h12) ?_
  refine Ev.bind (first_ev _ (by simp)) ?_
  exact Ev.now _
theorem where_any (x y : S58) (A10 A11 A12 B10 B11 B12 : Option Addr) (c10 c11 c12 d10 d11 d12 : Nat) (w : World)
    (l10 : x.f10.length ≤ c10) (g10 : Kd.C k61 w A10 x.f10.length x.f10) (l11 : x.f11.length ≤ c11) (g11 : Kd.C k63 w A11 x.f11.length x.f11) (l12 : x.f12.length ≤ c12) (g12 : Kd.C (Kd.int .u64) w A12 x.f12.length x.f12)
    (m10 : y.f10.length ≤ d10) (j10 : Kd.C k61 w B10 y.f10.length y.f10) (m11 : y.f11.length ≤ d11) (j11 : Kd.C k63 w B11 y.f11.length y.f11) (m12 : y.f12.length ≤ d12) (j12 : Kd.C (Kd.int .u64) w B12 y.f12.length y.f12) :
    Calls Tryd.prog 24 #[.agg #[.string x.f0, .int .u64 x.f1, .int .u64 x.f2, .int .u64 x.f3, .int .u64 x.f4, .int .u64 x.f5, .int .u64 x.f6, .int .u64 x.f7, .int .u64 x.f8, .string x.f9, .slice A10 x.f10.length c10, .slice A11 x.f11.length c11, .slice A12 x.f12.length c12], .agg #[.string y.f0, .int .u64 y.f1, .int .u64 y.f2, .int .u64 y.f3, .int .u64 y.f4, .int .u64 y.f5, .int .u64 y.f6, .int .u64 y.f7, .int .u64 y.f8, .string y.f9, .slice B10 y.f10.length d10, .slice B11 y.f11.length d11, .slice B12 y.f12.length d12]] w fun e w' => e = .returned (.string (whereR x y)) ∧ Below w.heap.size w w' := by
  obtain ⟨k, hk⟩ := (where_ev x y g10.2.1 g11.2.1 g12.2.1).rounds
  exact same_where.calls k _ _ _ _ _ _ _ _ _ _ A10 c10 _ A11 c11 _ A12 c12 _ _ _ _ _ _ _ _ _ _ _ B10 d10 _ B11 d11 _ B12 d12 _ _ w g10 l10 g11 l11 g12 l12 j10 m10 j11 m11 j12 m12 hk
theorem first3_any (p q r : S90) (b : Nat) (t : TypeId) (w : World) (hb : w.heap[b]? = some (.cells #[.string p.f0, .bool p.f1, .string q.f0, .bool q.f1, .string r.f0, .bool r.f1] t (0, 0))) :
    Calls Tryd.prog 23 #[.slice (some ⟨b, 0, none⟩) 3 3] w fun e w' => e = .returned (.string (firstR [p, q, r])) ∧ Below w.heap.size w w' := by
  obtain ⟨k, hk⟩ := (first_ev [p, q, r] (by simp)).rounds
  refine same_first.calls k (some ⟨b, 0, none⟩) 3 [p, q, r] _ w ?_ (Nat.le_refl _) hk
  refine ⟨rfl, by simp, fun _ => ⟨⟨b, 0, none⟩, rfl, fun j x hj => ?_⟩⟩
  match j, hj with
  | 0, hj => cases hj; exact ⟨_, rfl, k90_mk w p, fun i u hu => by
      match i, hu with
      | 0, hu => cases hu; exact blk_cell hb 0
      | 1, hu => cases hu; exact blk_cell hb 1⟩
  | 1, hj => cases hj; exact ⟨_, rfl, k90_mk w q, fun i u hu => by
      match i, hu with
      | 0, hu => cases hu; exact blk_cell hb 2
      | 1, hu => cases hu; exact blk_cell hb 3⟩
  | 2, hj => cases hj; exact ⟨_, rfl, k90_mk w r, fun i u hu => by
      match i, hu with
      | 0, hu => cases hu; exact blk_cell hb 4
      | 1, hu => cases hu; exact blk_cell hb 5⟩
end Go.Proofs.YthphhogljniofaaDoor

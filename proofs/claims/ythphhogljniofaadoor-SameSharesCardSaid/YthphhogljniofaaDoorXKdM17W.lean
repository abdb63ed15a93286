/- Contracts over this translation, two sections: equal. -/
import Derived.Test.YthphhogljniofaaDoorXKdM17N
import Derived.Test.YthphhogljniofaaDoorXKdx2
import Derived.Test.YthphhogljniofaaDoorXKdx3
namespace Go.Proofs.YthphhogljniofaaDoor
set_option linter.unusedVariables false
set_option linter.unusedSimpArgs false
open Go.RowKit Go.Proofs.YthphhogljniofaaDoorX.Kd Go.Proofs.YthphhogljniofaaDoorW.PrintWords Go.Proofs.YthphhogljniofaaDoorW.PrintLast Go.Proofs.YthphhogljniofaaDoorW.PrintMore
attribute [local go_sem high] eqA61 eqA63

theorem wpList_of_still {P : Program} {ops : Array Oper} {w : World} {Q : Exit → Act → World → Prop} : ∀ (l : List Oper) (a : Act), wpStill P ops w (fun a' => Q .normal a' w) l a → wpList P ops Q l a w
  | [], a, h => h
  | o :: r, a, h => by
    unfold wpStill at h
    unfold wpList
    split
    · rename_i hw
      rw [if_pos hw] at h
      exact .inl (Oper.wp_of_still (fun a' h' => wpList_of_still r a' h') h)
    · rename_i hw
      rw [if_neg hw] at h
      exact wpList_of_still r _ h
/-- Where equal stands. -/
def ESt (w0 wx : World) (XC YC : Array Value) : Prop :=
  wx.heap[w0.heap.size]? = some (.cells XC 58 (0, 0)) ∧ wx.heap[w0.heap.size + 1]? = some (.cells YC 58 (0, 0)) ∧ Below w0.heap.size w0 wx
theorem ESt.below {w0 wx wy : World} {XC YC : Array Value} (h : ESt w0 wx XC YC) (hb : Below wx.heap.size wx wy) : ESt w0 wy XC YC :=
  ⟨blk_below h.1 hb, blk_below h.2.1 hb, h.2.2.trans (hb.mono h.2.2.size)⟩
set_option maxRecDepth 100000 in
set_option maxHeartbeats 32000000 in
theorem equal_any (x y : S58) (A0 A1 A2 B0 B1 B2 : Option Addr) (a0 a1 a2 b0 b1 b2 : Nat) (w : World) (g0 : Kd.C k61 w A0 x.f10.length x.f10) (g1 : Kd.C k63 w A1 x.f11.length x.f11) (g2 : Kd.C (Kd.int .u64) w A2 x.f12.length x.f12) (j0 : Kd.C k61 w B0 y.f10.length y.f10) (j1 : Kd.C k63 w B1 y.f11.length y.f11) (j2 : Kd.C (Kd.int .u64) w B2 y.f12.length y.f12) :
    Calls Tryd.prog 17 #[.agg #[.string x.f0, .int .u64 x.f1, .int .u64 x.f2, .int .u64 x.f3, .int .u64 x.f4, .int .u64 x.f5, .int .u64 x.f6, .int .u64 x.f7, .int .u64 x.f8, .string x.f9, .slice A0 x.f10.length a0, .slice A1 x.f11.length a1, .slice A2 x.f12.length a2], .agg #[.string y.f0, .int .u64 y.f1, .int .u64 y.f2, .int .u64 y.f3, .int .u64 y.f4, .int .u64 y.f5, .int .u64 y.f6, .int .u64 y.f7, .int .u64 y.f8, .string y.f9, .slice B0 y.f10.length b0, .slice B1 y.f11.length b1, .slice B2 y.f12.length b2]] w fun e w' => e = .returned (.bool (eqC x y)) ∧ Below w.heap.size w w' := by
  have HG0 := Lib.hid g0
  have HG1 := Lib.hid g1
  have HG2 := Lib.hid g2
  have HJ0 := Lib.hid j0
  have HJ1 := Lib.hid j1
  have HJ2 := Lib.hid j2
  clear g0 g1 g2 j0 j1 j2
  go_enter Tryd.func17, Tryd.ntmps17
  go_upto_region 1 with (fail)
  obtain ⟨wA, hwA⟩ : ∃ wA, wA = (w.alloc (.cells #[.string x.f0, .int .u64 x.f1, .int .u64 x.f2, .int .u64 x.f3, .int .u64 x.f4, .int .u64 x.f5, .int .u64 x.f6, .int .u64 x.f7, .int .u64 x.f8, .string x.f9, .slice A0 x.f10.length a0, .slice A1 x.f11.length a1, .slice A2 x.f12.length a2] 58)).alloc (.cells #[.string y.f0, .int .u64 y.f1, .int .u64 y.f2, .int .u64 y.f3, .int .u64 y.f4, .int .u64 y.f5, .int .u64 y.f6, .int .u64 y.f7, .int .u64 y.f8, .string y.f9, .slice B0 y.f10.length b0, .slice B1 y.f11.length b1, .slice B2 y.f12.length b2] 58) := ⟨_, rfl⟩
  have HT := Lib.hid (show ESt w wA #[.string x.f0, .int .u64 x.f1, .int .u64 x.f2, .int .u64 x.f3, .int .u64 x.f4, .int .u64 x.f5, .int .u64 x.f6, .int .u64 x.f7, .int .u64 x.f8, .string x.f9, .slice A0 x.f10.length a0, .slice A1 x.f11.length a1, .slice A2 x.f12.length a2] #[.string y.f0, .int .u64 y.f1, .int .u64 y.f2, .int .u64 y.f3, .int .u64 y.f4, .int .u64 y.f5, .int .u64 y.f6, .int .u64 y.f7, .int .u64 y.f8, .string y.f9, .slice B0 y.f10.length b0, .slice B1 y.f11.length b1, .slice B2 y.f12.length b2] from by
    have h1 := blk_new (w.alloc (.cells #[.string x.f0, .int .u64 x.f1, .int .u64 x.f2, .int .u64 x.f3, .int .u64 x.f4, .int .u64 x.f5, .int .u64 x.f6, .int .u64 x.f7, .int .u64 x.f8, .string x.f9, .slice A0 x.f10.length a0, .slice A1 x.f11.length a1, .slice A2 x.f12.length a2] 58)) (.cells #[.string y.f0, .int .u64 y.f1, .int .u64 y.f2, .int .u64 y.f3, .int .u64 y.f4, .int .u64 y.f5, .int .u64 y.f6, .int .u64 y.f7, .int .u64 y.f8, .string y.f9, .slice B0 y.f10.length b0, .slice B1 y.f11.length b1, .slice B2 y.f12.length b2] 58)
    rw [World.size_alloc] at h1
    rw [hwA]
    exact ⟨blk_alloc (blk_new w _) _, h1, ((Below.refl _ _).alloc (Nat.le_refl _) _).alloc (by simp) _⟩)
  rw [← hwA]
  clear hwA
  have p0 := blk_cell HT.out.1 0
  have q0 := blk_cell HT.out.2.1 0
  have p1 := blk_cell HT.out.1 1
  have q1 := blk_cell HT.out.2.1 1
  have p2 := blk_cell HT.out.1 2
  have q2 := blk_cell HT.out.2.1 2
  have p3 := blk_cell HT.out.1 3
  have q3 := blk_cell HT.out.2.1 3
  have p4 := blk_cell HT.out.1 4
  have q4 := blk_cell HT.out.2.1 4
  have p5 := blk_cell HT.out.1 5
  have q5 := blk_cell HT.out.2.1 5
  have p6 := blk_cell HT.out.1 6
  have q6 := blk_cell HT.out.2.1 6
  have p7 := blk_cell HT.out.1 7
  have q7 := blk_cell HT.out.2.1 7
  have p8 := blk_cell HT.out.1 8
  have q8 := blk_cell HT.out.2.1 8
  have p9 := blk_cell HT.out.1 9
  have q9 := blk_cell HT.out.2.1 9
  have p10 := blk_cell HT.out.1 10
  have q10 := blk_cell HT.out.2.1 10
  have p11 := blk_cell HT.out.1 11
  have q11 := blk_cell HT.out.2.1 11
  have p12 := blk_cell HT.out.1 12
  have q12 := blk_cell HT.out.2.1 12
  simp only [List.getElem?_toArray, List.getElem?_cons_succ, List.getElem?_cons_zero] at p0 q0 p1 q1 p2 q2 p3 q3 p4 q4 p5 q5 p6 q6 p7 q7 p8 q8 p9 q9 p10 q10 p11 q11 p12 q12
  obtain ⟨x0, hx0⟩ : ∃ x0 : Bool, (!x.f0.toList == y.f0.toList) = x0 := ⟨_, rfl⟩
  have HX0 := Lib.hid hx0
  obtain ⟨x1, hx1⟩ : ∃ x1 : Bool, (x.f1 != y.f1) = x1 := ⟨_, rfl⟩
  have HX1 := Lib.hid hx1
  obtain ⟨x2, hx2⟩ : ∃ x2 : Bool, (x.f2 != y.f2) = x2 := ⟨_, rfl⟩
  have HX2 := Lib.hid hx2
  obtain ⟨x3, hx3⟩ : ∃ x3 : Bool, (x.f3 != y.f3) = x3 := ⟨_, rfl⟩
  have HX3 := Lib.hid hx3
  obtain ⟨x4, hx4⟩ : ∃ x4 : Bool, (x.f4 != y.f4) = x4 := ⟨_, rfl⟩
  have HX4 := Lib.hid hx4
  obtain ⟨x5, hx5⟩ : ∃ x5 : Bool, (x.f5 != y.f5) = x5 := ⟨_, rfl⟩
  have HX5 := Lib.hid hx5
  obtain ⟨x6, hx6⟩ : ∃ x6 : Bool, (x.f6 != y.f6) = x6 := ⟨_, rfl⟩
  have HX6 := Lib.hid hx6
  obtain ⟨x7, hx7⟩ : ∃ x7 : Bool, (x.f7 != y.f7) = x7 := ⟨_, rfl⟩
  have HX7 := Lib.hid hx7
  obtain ⟨x8, hx8⟩ : ∃ x8 : Bool, (x.f8 != y.f8) = x8 := ⟨_, rfl⟩
  have HX8 := Lib.hid hx8
  obtain ⟨x9, hx9⟩ : ∃ x9 : Bool, (!x.f9.toList == y.f9.toList) = x9 := ⟨_, rfl⟩
  have HX9 := Lib.hid hx9
  obtain ⟨x10, hx10⟩ : ∃ x10 : Bool, ((x.f10.length : Int) != (y.f10.length : Int)) = x10 := ⟨_, rfl⟩
  have HX10 := Lib.hid hx10
  obtain ⟨x11, hx11⟩ : ∃ x11 : Bool, ((x.f11.length : Int) != (y.f11.length : Int)) = x11 := ⟨_, rfl⟩
  have HX11 := Lib.hid hx11
  obtain ⟨x12, hx12⟩ : ∃ x12 : Bool, ((x.f12.length : Int) != (y.f12.length : Int)) = x12 := ⟨_, rfl⟩
  have HX12 := Lib.hid hx12
  obtain ⟨y1, hy1⟩ : ∃ y1 : Bool, (x0 || x1) = y1 := ⟨_, rfl⟩
  obtain ⟨y2, hy2⟩ : ∃ y2 : Bool, (y1 || x2) = y2 := ⟨_, rfl⟩
  obtain ⟨y3, hy3⟩ : ∃ y3 : Bool, (y2 || x3) = y3 := ⟨_, rfl⟩
  obtain ⟨y4, hy4⟩ : ∃ y4 : Bool, (y3 || x4) = y4 := ⟨_, rfl⟩
  obtain ⟨y5, hy5⟩ : ∃ y5 : Bool, (y4 || x5) = y5 := ⟨_, rfl⟩
  obtain ⟨y6, hy6⟩ : ∃ y6 : Bool, (y5 || x6) = y6 := ⟨_, rfl⟩
  obtain ⟨y7, hy7⟩ : ∃ y7 : Bool, (y6 || x7) = y7 := ⟨_, rfl⟩
  obtain ⟨y8, hy8⟩ : ∃ y8 : Bool, (y7 || x8) = y8 := ⟨_, rfl⟩
  obtain ⟨y9, hy9⟩ : ∃ y9 : Bool, (y8 || x9) = y9 := ⟨_, rfl⟩
  obtain ⟨y10, hy10⟩ : ∃ y10 : Bool, (y9 || x10) = y10 := ⟨_, rfl⟩
  obtain ⟨y11, hy11⟩ : ∃ y11 : Bool, (y10 || x11) = y11 := ⟨_, rfl⟩
  obtain ⟨y12, hy12⟩ : ∃ y12 : Bool, (y11 || x12) = y12 := ⟨_, rfl⟩
  have HZ := Lib.hid (show (x0 = true ∨ x1 = true ∨ x2 = true ∨ x3 = true ∨ x4 = true ∨ x5 = true ∨ x6 = true ∨ x7 = true ∨ x8 = true ∨ x9 = true ∨ x10 = true ∨ x11 = true ∨ x12 = true) ↔ y12 = true by rw [← hy12, ← hy11, ← hy10, ← hy9, ← hy8, ← hy7, ← hy6, ← hy5, ← hy4, ← hy3, ← hy2, ← hy1]; simp [or_assoc])
  refine wp_region_lit (wpList_of_still _ _ ?_)
  refine still_hide (fun Q1 hQ1 => ?_)
  simp only [List.append_eq, List.cons_append, List.nil_append]
  iterate 6 (refine still_on (by rfl) (fun K hK => ?_); go_simp; refine hK _ ?_; clear hK K)
  refine still_join (σ := Value × Value × Value × Value × Value) 6 (fun s => [(14, s.1), (15, s.2.1), (16, s.2.2.1), (17, s.2.2.2.1), (18, s.2.2.2.2), (19, .bool y1)]) (fun Q' hQ' => ?_) (fun s => ?_)
  · simp only [List.take_succ_cons, List.take_zero]
    simp only [Go.Proofs.YthphhogljniofaaDoorW.PrintLast.putAll, Act.put, List.setIfInBounds_toArray, List.set_cons_zero, List.set_cons_succ, Prod.forall] at hQ'
    clear hQ1
    rcases Bool.eq_false_or_eq_true x0 with hb | hb
    · rw [hb, Bool.true_or] at hy1
      rw [← hy1] at hQ'
      simp only [hb] at hQ'
      clear hy1 HZ
      iterate 5 (refine still_off (by first | rfl | (show (some x0 == some false) = false; rw [hb]; rfl)) ?_; simp only [Act.put, List.setIfInBounds_toArray, List.set_cons_zero, List.set_cons_succ])
      (refine still_on (by rfl) (fun K hK => ?_); go_simp; refine hK _ ?_; clear hK K)
      exact wpStill_nil (hQ' _ _ _ _ _)
    · rw [hb, Bool.false_or] at hy1
      rw [← hy1] at hQ'
      simp only [hb] at hQ'
      clear hy1 HZ
      refine still_on (by first | rfl | (show (some x0 == some false) = true; rw [hb]; rfl)) (fun K hK => ?_); go_simp; refine hK _ ?_; clear hK K
      refine still_on (by first | rfl | (show (some x0 == some false) = true; rw [hb]; rfl)) (fun K hK => ?_); go_simp; refine hK _ ?_; clear hK K
      refine still_on (by first | rfl | (show (some x0 == some false) = true; rw [hb]; rfl)) (fun K hK => ?_); go_simp; refine hK _ ?_; clear hK K
      refine still_on (by first | rfl | (show (some x0 == some false) = true; rw [hb]; rfl)) (fun K hK => ?_); go_simp; refine hK _ ?_; clear hK K
      refine still_on (by first | rfl | (show (some x0 == some false) = true; rw [hb]; rfl)) (fun K hK => ?_); go_simp; refine hK _ ?_; clear hK K
      (refine still_on (by rfl) (fun K hK => ?_); go_simp; refine hK _ ?_; clear hK K)
      exact wpStill_nil (hQ' _ _ _ _ _)
  obtain ⟨t14, t15, t16, t17, t18⟩ := s
  simp only [List.drop_succ_cons, List.drop_zero, Go.Proofs.YthphhogljniofaaDoorW.PrintLast.putAll, Act.put, List.setIfInBounds_toArray, List.set_cons_zero, List.set_cons_succ]
  iterate 1 (refine still_on (by rfl) (fun K hK => ?_); go_simp; refine hK _ ?_; clear hK K)
  refine still_join (σ := Value × Value × Value × Value × Value) 6 (fun s => [(21, s.1), (22, s.2.1), (23, s.2.2.1), (24, s.2.2.2.1), (25, s.2.2.2.2), (26, .bool y2)]) (fun Q' hQ' => ?_) (fun s => ?_)
  · simp only [List.take_succ_cons, List.take_zero]
    simp only [Go.Proofs.YthphhogljniofaaDoorW.PrintLast.putAll, Act.put, List.setIfInBounds_toArray, List.set_cons_zero, List.set_cons_succ, Prod.forall] at hQ'
    clear hQ1
    rcases Bool.eq_false_or_eq_true y1 with hb | hb
    · rw [hb, Bool.true_or] at hy2
      rw [← hy2] at hQ'
      simp only [hb] at hQ'
      clear hy2 HZ
      iterate 5 (refine still_off (by first | rfl | (show (some y1 == some false) = false; rw [hb]; rfl)) ?_; simp only [Act.put, List.setIfInBounds_toArray, List.set_cons_zero, List.set_cons_succ])
      (refine still_on (by rfl) (fun K hK => ?_); go_simp; refine hK _ ?_; clear hK K)
      exact wpStill_nil (hQ' _ _ _ _ _)
    · rw [hb, Bool.false_or] at hy2
      rw [← hy2] at hQ'
      simp only [hb] at hQ'
      clear hy2 HZ
      refine still_on (by first | rfl | (show (some y1 == some false) = true; rw [hb]; rfl)) (fun K hK => ?_); go_simp; refine hK _ ?_; clear hK K
      refine still_on (by first | rfl | (show (some y1 == some false) = true; rw [hb]; rfl)) (fun K hK => ?_); go_simp; refine hK _ ?_; clear hK K
      refine still_on (by first | rfl | (show (some y1 == some false) = true; rw [hb]; rfl)) (fun K hK => ?_); go_simp; refine hK _ ?_; clear hK K
      refine still_on (by first | rfl | (show (some y1 == some false) = true; rw [hb]; rfl)) (fun K hK => ?_); go_simp; refine hK _ ?_; clear hK K
      refine still_on (by first | rfl | (show (some y1 == some false) = true; rw [hb]; rfl)) (fun K hK => ?_); go_simp; refine hK _ ?_; clear hK K
      (refine still_on (by rfl) (fun K hK => ?_); go_simp; refine hK _ ?_; clear hK K)
      exact wpStill_nil (hQ' _ _ _ _ _)
  obtain ⟨t21, t22, t23, t24, t25⟩ := s
  simp only [List.drop_succ_cons, List.drop_zero, Go.Proofs.YthphhogljniofaaDoorW.PrintLast.putAll, Act.put, List.setIfInBounds_toArray, List.set_cons_zero, List.set_cons_succ]
  iterate 1 (refine still_on (by rfl) (fun K hK => ?_); go_simp; refine hK _ ?_; clear hK K)
  refine still_join (σ := Value × Value × Value × Value × Value) 6 (fun s => [(28, s.1), (29, s.2.1), (30, s.2.2.1), (31, s.2.2.2.1), (32, s.2.2.2.2), (33, .bool y3)]) (fun Q' hQ' => ?_) (fun s => ?_)
  · simp only [List.take_succ_cons, List.take_zero]
    simp only [Go.Proofs.YthphhogljniofaaDoorW.PrintLast.putAll, Act.put, List.setIfInBounds_toArray, List.set_cons_zero, List.set_cons_succ, Prod.forall] at hQ'
    clear hQ1
    rcases Bool.eq_false_or_eq_true y2 with hb | hb
    · rw [hb, Bool.true_or] at hy3
      rw [← hy3] at hQ'
      simp only [hb] at hQ'
      clear hy3 HZ
      iterate 5 (refine still_off (by first | rfl | (show (some y2 == some false) = false; rw [hb]; rfl)) ?_; simp only [Act.put, List.setIfInBounds_toArray, List.set_cons_zero, List.set_cons_succ])
      (refine still_on (by rfl) (fun K hK => ?_); go_simp; refine hK _ ?_; clear hK K)
      exact wpStill_nil (hQ' _ _ _ _ _)
    · rw [hb, Bool.false_or] at hy3
      rw [← hy3] at hQ'
      simp only [hb] at hQ'
      clear hy3 HZ
      refine still_on (by first | rfl | (show (some y2 == some false) = true; rw [hb]; rfl)) (fun K hK => ?_); go_simp; refine hK _ ?_; clear hK K
      refine still_on (by first | rfl | (show (some y2 == some false) = true; rw [hb]; rfl)) (fun K hK => ?_); go_simp; refine hK _ ?_; clear hK K
      refine still_on (by first | rfl | (show (some y2 == some false) = true; rw [hb]; rfl)) (fun K hK => ?_); go_simp; refine hK _ ?_; clear hK K
      refine still_on (by first | rfl | (show (some y2 == some false) = true; rw [hb]; rfl)) (fun K hK => ?_); go_simp; refine hK _ ?_; clear hK K
      refine still_on (by first | rfl | (show (some y2 == some false) = true; rw [hb]; rfl)) (fun K hK => ?_); go_simp; refine hK _ ?_; clear hK K
      (refine still_on (by rfl) (fun K hK => ?_); go_simp; refine hK _ ?_; clear hK K)
      exact wpStill_nil (hQ' _ _ _ _ _)
  obtain ⟨t28, t29, t30, t31, t32⟩ := s
  simp only [List.drop_succ_cons, List.drop_zero, Go.Proofs.YthphhogljniofaaDoorW.PrintLast.putAll, Act.put, List.setIfInBounds_toArray, List.set_cons_zero, List.set_cons_succ]
  iterate 1 (refine still_on (by rfl) (fun K hK => ?_); go_simp; refine hK _ ?_; clear hK K)
  refine still_join (σ := Value × Value × Value × Value × Value) 6 (fun s => [(35, s.1), (36, s.2.1), (37, s.2.2.1), (38, s.2.2.2.1), (39, s.2.2.2.2), (40, .bool y4)]) (fun Q' hQ' => ?_) (fun s => ?_)
  · simp only [List.take_succ_cons, List.take_zero]
    simp only [Go.Proofs.YthphhogljniofaaDoorW.PrintLast.putAll, Act.put, List.setIfInBounds_toArray, List.set_cons_zero, List.set_cons_succ, Prod.forall] at hQ'
    clear hQ1
    rcases Bool.eq_false_or_eq_true y3 with hb | hb
    · rw [hb, Bool.true_or] at hy4
      rw [← hy4] at hQ'
      simp only [hb] at hQ'
      clear hy4 HZ
      iterate 5 (refine still_off (by first | rfl | (show (some y3 == some false) = false; rw [hb]; rfl)) ?_; simp only [Act.put, List.setIfInBounds_toArray, List.set_cons_zero, List.set_cons_succ])
      (refine still_on (by rfl) (fun K hK => ?_); go_simp; refine hK _ ?_; clear hK K)
      exact wpStill_nil (hQ' _ _ _ _ _)
    · rw [hb, Bool.false_or] at hy4
      rw [← hy4] at hQ'
      simp only [hb] at hQ'
      clear hy4 HZ
      refine still_on (by first | rfl | (show (some y3 == some false) = true; rw [hb]; rfl)) (fun K hK => ?_); go_simp; refine hK _ ?_; clear hK K
      refine still_on (by first | rfl | (show (some y3 == some false) = true; rw [hb]; rfl)) (fun K hK => ?_); go_simp; refine hK _ ?_; clear hK K
      refine still_on (by first | rfl | (show (some y3 == some false) = true; rw [hb]; rfl)) (fun K hK => ?_); go_simp; refine hK _ ?_; clear hK K
      refine still_on (by first | rfl | (show (some y3 == some false) = true; rw [hb]; rfl)) (fun K hK => ?_); go_simp; refine hK _ ?_; clear hK K
      refine still_on (by first | rfl | (show (some y3 == some false) = true; rw [hb]; rfl)) (fun K hK => ?_); go_simp; refine hK _ ?_; clear hK K
      (refine still_on (by rfl) (fun K hK => ?_); go_simp; refine hK _ ?_; clear hK K)
      exact wpStill_nil (hQ' _ _ _ _ _)
  obtain ⟨t35, t36, t37, t38, t39⟩ := s
  simp only [List.drop_succ_cons, List.drop_zero, Go.Proofs.YthphhogljniofaaDoorW.PrintLast.putAll, Act.put, List.setIfInBounds_toArray, List.set_cons_zero, List.set_cons_succ]
  iterate 1 (refine still_on (by rfl) (fun K hK => ?_); go_simp; refine hK _ ?_; clear hK K)
  refine still_join (σ := Value × Value × Value × Value × Value) 6 (fun s => [(42, s.1), (43, s.2.1), (44, s.2.2.1), (45, s.2.2.2.1), (46, s.2.2.2.2), (47, .bool y5)]) (fun Q' hQ' => ?_) (fun s => ?_)
  · simp only [List.take_succ_cons, List.take_zero]
    simp only [Go.Proofs.YthphhogljniofaaDoorW.PrintLast.putAll, Act.put, List.setIfInBounds_toArray, List.set_cons_zero, List.set_cons_succ, Prod.forall] at hQ'
    clear hQ1
    rcases Bool.eq_false_or_eq_true y4 with hb | hb
    · rw [hb, Bool.true_or] at hy5
      rw [← hy5] at hQ'
      simp only [hb] at hQ'
      clear hy5 HZ
      iterate 5 (refine still_off (by first | rfl | (show (some y4 == some false) = false; rw [hb]; rfl)) ?_; simp only [Act.put, List.setIfInBounds_toArray, List.set_cons_zero, List.set_cons_succ])
      (refine still_on (by rfl) (fun K hK => ?_); go_simp; refine hK _ ?_; clear hK K)
      exact wpStill_nil (hQ' _ _ _ _ _)
    · rw [hb, Bool.false_or] at hy5
      rw [← hy5] at hQ'
      simp only [hb] at hQ'
      clear hy5 HZ
      refine still_on (by first | rfl | (show (some y4 == some false) = true; rw [hb]; rfl)) (fun K hK => ?_); go_simp; refine hK _ ?_; clear hK K
      refine still_on (by first | rfl | (show (some y4 == some false) = true; rw [hb]; rfl)) (fun K hK => ?_); go_simp; refine hK _ ?_; clear hK K
      refine still_on (by first | rfl | (show (some y4 == some false) = true; rw [hb]; rfl)) (fun K hK => ?_); go_simp; refine hK _ ?_; clear hK K
      refine still_on (by first | rfl | (show (some y4 == some false) = true; rw [hb]; rfl)) (fun K hK => ?_); go_simp; refine hK _ ?_; clear hK K
      refine still_on (by first | rfl | (show (some y4 == some false) = true; rw [hb]; rfl)) (fun K hK => ?_); go_simp; refine hK _ ?_; clear hK K
      (refine still_on (by rfl) (fun K hK => ?_); go_simp; refine hK _ ?_; clear hK K)
      exact wpStill_nil (hQ' _ _ _ _ _)
  obtain ⟨t42, t43, t44, t45, t46⟩ := s
  simp only [List.drop_succ_cons, List.drop_zero, Go.Proofs.YthphhogljniofaaDoorW.PrintLast.putAll, Act.put, List.setIfInBounds_toArray, List.set_cons_zero, List.set_cons_succ]
  iterate 1 (refine still_on (by rfl) (fun K hK => ?_); go_simp; refine hK _ ?_; clear hK K)
  refine still_join (σ := Value × Value × Value × Value × Value) 6 (fun s => [(49, s.1), (50, s.2.1), (51, s.2.2.1), (52, s.2.2.2.1), (53, s.2.2.2.2), (54, .bool y6)]) (fun Q' hQ' => ?_) (fun s => ?_)
  · simp only [List.take_succ_cons, List.take_zero]
    simp only [Go.Proofs.YthphhogljniofaaDoorW.PrintLast.putAll, Act.put, List.setIfInBounds_toArray, List.set_cons_zero, List.set_cons_succ, Prod.forall] at hQ'
    clear hQ1
    rcases Bool.eq_false_or_eq_true y5 with hb | hb
    · rw [hb, Bool.true_or] at hy6
      rw [← hy6] at hQ'
      simp only [hb] at hQ'
      clear hy6 HZ
      iterate 5 (refine still_off (by first | rfl | (show (some y5 == some false) = false; rw [hb]; rfl)) ?_; simp only [Act.put, List.setIfInBounds_toArray, List.set_cons_zero, List.set_cons_succ])
      (refine still_on (by rfl) (fun K hK => ?_); go_simp; refine hK _ ?_; clear hK K)
      exact wpStill_nil (hQ' _ _ _ _ _)
    · rw [hb, Bool.false_or] at hy6
      rw [← hy6] at hQ'
      simp only [hb] at hQ'
      clear hy6 HZ
      refine still_on (by first | rfl | (show (some y5 == some false) = true; rw [hb]; rfl)) (fun K hK => ?_); go_simp; refine hK _ ?_; clear hK K
      refine still_on (by first | rfl | (show (some y5 == some false) = true; rw [hb]; rfl)) (fun K hK => ?_); go_simp; refine hK _ ?_; clear hK K
      refine still_on (by first | rfl | (show (some y5 == some false) = true; rw [hb]; rfl)) (fun K hK => ?_); go_simp; refine hK _ ?_; clear hK K
      refine still_on (by first | rfl | (show (some y5 == some false) = true; rw [hb]; rfl)) (fun K hK => ?_); go_simp; refine hK _ ?_; clear hK K
      refine still_on (by first | rfl | (show (some y5 == some false) = true; rw [hb]; rfl)) (fun K hK => ?_); go_simp; refine hK _ ?_; clear hK K
      (refine still_on (by rfl) (fun K hK => ?_); go_simp; refine hK _ ?_; clear hK K)
      exact wpStill_nil (hQ' _ _ _ _ _)
  obtain ⟨t49, t50, t51, t52, t53⟩ := s
  simp only [List.drop_succ_cons, List.drop_zero, Go.Proofs.YthphhogljniofaaDoorW.PrintLast.putAll, Act.put, List.setIfInBounds_toArray, List.set_cons_zero, List.set_cons_succ]
  iterate 1 (refine still_on (by rfl) (fun K hK => ?_); go_simp; refine hK _ ?_; clear hK K)
  refine still_join (σ := Value × Value × Value × Value × Value) 6 (fun s => [(56, s.1), (57, s.2.1), (58, s.2.2.1), (59, s.2.2.2.1), (60, s.2.2.2.2), (61, .bool y7)]) (fun Q' hQ' => ?_) (fun s => ?_)
  · simp only [List.take_succ_cons, List.take_zero]
    simp only [Go.Proofs.YthphhogljniofaaDoorW.PrintLast.putAll, Act.put, List.setIfInBounds_toArray, List.set_cons_zero, List.set_cons_succ, Prod.forall] at hQ'
    clear hQ1
    rcases Bool.eq_false_or_eq_true y6 with hb | hb
    · rw [hb, Bool.true_or] at hy7
      rw [← hy7] at hQ'
      simp only [hb] at hQ'
      clear hy7 HZ
      iterate 5 (refine still_off (by first | rfl | (show (some y6 == some false) = false; rw [hb]; rfl)) ?_; simp only [Act.put, List.setIfInBounds_toArray, List.set_cons_zero, List.set_cons_succ])
      (refine still_on (by rfl) (fun K hK => ?_); go_simp; refine hK _ ?_; clear hK K)
      exact wpStill_nil (hQ' _ _ _ _ _)
    · rw [hb, Bool.false_or] at hy7
      rw [← hy7] at hQ'
      simp only [hb] at hQ'
      clear hy7 HZ
      refine still_on (by first | rfl | (show (some y6 == some false) = true; rw [hb]; rfl)) (fun K hK => ?_); go_simp; refine hK _ ?_; clear hK K
      refine still_on (by first | rfl | (show (some y6 == some false) = true; rw [hb]; rfl)) (fun K hK => ?_); go_simp; refine hK _ ?_; clear hK K
      refine still_on (by first | rfl | (show (some y6 == some false) = true; rw [hb]; rfl)) (fun K hK => ?_); go_simp; refine hK _ ?_; clear hK K
      refine still_on (by first | rfl | (show (some y6 == some false) = true; rw [hb]; rfl)) (fun K hK => ?_); go_simp; refine hK _ ?_; clear hK K
      refine still_on (by first | rfl | (show (some y6 == some false) = true; rw [hb]; rfl)) (fun K hK => ?_); go_simp; refine hK _ ?_; clear hK K
      (refine still_on (by rfl) (fun K hK => ?_); go_simp; refine hK _ ?_; clear hK K)
      exact wpStill_nil (hQ' _ _ _ _ _)
  obtain ⟨t56, t57, t58, t59, t60⟩ := s
  simp only [List.drop_succ_cons, List.drop_zero, Go.Proofs.YthphhogljniofaaDoorW.PrintLast.putAll, Act.put, List.setIfInBounds_toArray, List.set_cons_zero, List.set_cons_succ]
  iterate 1 (refine still_on (by rfl) (fun K hK => ?_); go_simp; refine hK _ ?_; clear hK K)
  refine still_join (σ := Value × Value × Value × Value × Value) 6 (fun s => [(63, s.1), (64, s.2.1), (65, s.2.2.1), (66, s.2.2.2.1), (67, s.2.2.2.2), (68, .bool y8)]) (fun Q' hQ' => ?_) (fun s => ?_)
  · simp only [List.take_succ_cons, List.take_zero]
    simp only [Go.Proofs.YthphhogljniofaaDoorW.PrintLast.putAll, Act.put, List.setIfInBounds_toArray, List.set_cons_zero, List.set_cons_succ, Prod.forall] at hQ'
    clear hQ1
    rcases Bool.eq_false_or_eq_true y7 with hb | hb
    · rw [hb, Bool.true_or] at hy8
      rw [← hy8] at hQ'
      simp only [hb] at hQ'
      clear hy8 HZ
      iterate 5 (refine still_off (by first | rfl | (show (some y7 == some false) = false; rw [hb]; rfl)) ?_; simp only [Act.put, List.setIfInBounds_toArray, List.set_cons_zero, List.set_cons_succ])
      (refine still_on (by rfl) (fun K hK => ?_); go_simp; refine hK _ ?_; clear hK K)
      exact wpStill_nil (hQ' _ _ _ _ _)
    · rw [hb, Bool.false_or] at hy8
      rw [← hy8] at hQ'
      simp only [hb] at hQ'
      clear hy8 HZ
      refine still_on (by first | rfl | (show (some y7 == some false) = true; rw [hb]; rfl)) (fun K hK => ?_); go_simp; refine hK _ ?_; clear hK K
      refine still_on (by first | rfl | (show (some y7 == some false) = true; rw [hb]; rfl)) (fun K hK => ?_); go_simp; refine hK _ ?_; clear hK K
      refine still_on (by first | rfl | (show (some y7 == some false) = true; rw [hb]; rfl)) (fun K hK => ?_); go_simp; refine hK _ ?_; clear hK K
      refine still_on (by first | rfl | (show (some y7 == some false) = true; rw [hb]; rfl)) (fun K hK => ?_); go_simp; refine hK _ ?_; clear hK K
      refine still_on (by first | rfl | (show (some y7 == some false) = true; rw [hb]; rfl)) (fun K hK => ?_); go_simp; refine hK _ ?_; clear hK K
      (refine still_on (by rfl) (fun K hK => ?_); go_simp; refine hK _ ?_; clear hK K)
      exact wpStill_nil (hQ' _ _ _ _ _)
  obtain ⟨t63, t64, t65, t66, t67⟩ := s
  simp only [List.drop_succ_cons, List.drop_zero, Go.Proofs.YthphhogljniofaaDoorW.PrintLast.putAll, Act.put, List.setIfInBounds_toArray, List.set_cons_zero, List.set_cons_succ]
  iterate 1 (refine still_on (by rfl) (fun K hK => ?_); go_simp; refine hK _ ?_; clear hK K)
  refine still_join (σ := Value × Value × Value × Value × Value) 6 (fun s => [(70, s.1), (71, s.2.1), (72, s.2.2.1), (73, s.2.2.2.1), (74, s.2.2.2.2), (75, .bool y9)]) (fun Q' hQ' => ?_) (fun s => ?_)
  · simp only [List.take_succ_cons, List.take_zero]
    simp only [Go.Proofs.YthphhogljniofaaDoorW.PrintLast.putAll, Act.put, List.setIfInBounds_toArray, List.set_cons_zero, List.set_cons_succ, Prod.forall] at hQ'
    clear hQ1
    rcases Bool.eq_false_or_eq_true y8 with hb | hb
    · rw [hb, Bool.true_or] at hy9
      rw [← hy9] at hQ'
      simp only [hb] at hQ'
      clear hy9 HZ
      iterate 5 (refine still_off (by first | rfl | (show (some y8 == some false) = false; rw [hb]; rfl)) ?_; simp only [Act.put, List.setIfInBounds_toArray, List.set_cons_zero, List.set_cons_succ])
      (refine still_on (by rfl) (fun K hK => ?_); go_simp; refine hK _ ?_; clear hK K)
      exact wpStill_nil (hQ' _ _ _ _ _)
    · rw [hb, Bool.false_or] at hy9
      rw [← hy9] at hQ'
      simp only [hb] at hQ'
      clear hy9 HZ
      refine still_on (by first | rfl | (show (some y8 == some false) = true; rw [hb]; rfl)) (fun K hK => ?_); go_simp; refine hK _ ?_; clear hK K
      refine still_on (by first | rfl | (show (some y8 == some false) = true; rw [hb]; rfl)) (fun K hK => ?_); go_simp; refine hK _ ?_; clear hK K
      refine still_on (by first | rfl | (show (some y8 == some false) = true; rw [hb]; rfl)) (fun K hK => ?_); go_simp; refine hK _ ?_; clear hK K
      refine still_on (by first | rfl | (show (some y8 == some false) = true; rw [hb]; rfl)) (fun K hK => ?_); go_simp; refine hK _ ?_; clear hK K
      refine still_on (by first | rfl | (show (some y8 == some false) = true; rw [hb]; rfl)) (fun K hK => ?_); go_simp; refine hK _ ?_; clear hK K
      (refine still_on (by rfl) (fun K hK => ?_); go_simp; refine hK _ ?_; clear hK K)
      exact wpStill_nil (hQ' _ _ _ _ _)
  obtain ⟨t70, t71, t72, t73, t74⟩ := s
  simp only [List.drop_succ_cons, List.drop_zero, Go.Proofs.YthphhogljniofaaDoorW.PrintLast.putAll, Act.put, List.setIfInBounds_toArray, List.set_cons_zero, List.set_cons_succ]
  iterate 1 (refine still_on (by rfl) (fun K hK => ?_); go_simp; refine hK _ ?_; clear hK K)
  refine still_join (σ := Value × Value × Value × Value × Value × Value × Value) 8 (fun s => [(77, s.1), (78, s.2.1), (79, s.2.2.1), (80, s.2.2.2.1), (81, s.2.2.2.2.1), (82, s.2.2.2.2.2.1), (83, s.2.2.2.2.2.2), (84, .bool y10)]) (fun Q' hQ' => ?_) (fun s => ?_)
  · simp only [List.take_succ_cons, List.take_zero]
    simp only [Go.Proofs.YthphhogljniofaaDoorW.PrintLast.putAll, Act.put, List.setIfInBounds_toArray, List.set_cons_zero, List.set_cons_succ, Prod.forall] at hQ'
    clear hQ1
    rcases Bool.eq_false_or_eq_true y9 with hb | hb
    · rw [hb, Bool.true_or] at hy10
      rw [← hy10] at hQ'
      simp only [hb] at hQ'
      clear hy10 HZ
      iterate 7 (refine still_off (by first | rfl | (show (some y9 == some false) = false; rw [hb]; rfl)) ?_; simp only [Act.put, List.setIfInBounds_toArray, List.set_cons_zero, List.set_cons_succ])
      (refine still_on (by rfl) (fun K hK => ?_); go_simp; refine hK _ ?_; clear hK K)
      exact wpStill_nil (hQ' _ _ _ _ _ _ _)
    · rw [hb, Bool.false_or] at hy10
      rw [← hy10] at hQ'
      simp only [hb] at hQ'
      clear hy10 HZ
      refine still_on (by first | rfl | (show (some y9 == some false) = true; rw [hb]; rfl)) (fun K hK => ?_); go_simp; refine hK _ ?_; clear hK K
      refine still_on (by first | rfl | (show (some y9 == some false) = true; rw [hb]; rfl)) (fun K hK => ?_); go_simp; refine hK _ ?_; clear hK K
      refine still_on (by first | rfl | (show (some y9 == some false) = true; rw [hb]; rfl)) (fun K hK => ?_); go_simp; refine hK _ ?_; clear hK K
      refine still_on (by first | rfl | (show (some y9 == some false) = true; rw [hb]; rfl)) (fun K hK => ?_); go_simp; refine hK _ ?_; clear hK K
      refine still_on (by first | rfl | (show (some y9 == some false) = true; rw [hb]; rfl)) (fun K hK => ?_); go_simp; refine hK _ ?_; clear hK K
      refine still_on (by first | rfl | (show (some y9 == some false) = true; rw [hb]; rfl)) (fun K hK => ?_); go_simp; refine hK _ ?_; clear hK K
      refine still_on (by first | rfl | (show (some y9 == some false) = true; rw [hb]; rfl)) (fun K hK => ?_); go_simp; refine hK _ ?_; clear hK K
      (refine still_on (by rfl) (fun K hK => ?_); go_simp; refine hK _ ?_; clear hK K)
      exact wpStill_nil (hQ' _ _ _ _ _ _ _)
  obtain ⟨t77, t78, t79, t80, t81, t82, t83⟩ := s
  simp only [List.drop_succ_cons, List.drop_zero, Go.Proofs.YthphhogljniofaaDoorW.PrintLast.putAll, Act.put, List.setIfInBounds_toArray, List.set_cons_zero, List.set_cons_succ]
  iterate 1 (refine still_on (by rfl) (fun K hK => ?_); go_simp; refine hK _ ?_; clear hK K)
  refine still_join (σ := Value × Value × Value × Value × Value × Value × Value) 8 (fun s => [(86, s.1), (87, s.2.1), (88, s.2.2.1), (89, s.2.2.2.1), (90, s.2.2.2.2.1), (91, s.2.2.2.2.2.1), (92, s.2.2.2.2.2.2), (93, .bool y11)]) (fun Q' hQ' => ?_) (fun s => ?_)
  · simp only [List.take_succ_cons, List.take_zero]
    simp only [Go.Proofs.YthphhogljniofaaDoorW.PrintLast.putAll, Act.put, List.setIfInBounds_toArray, List.set_cons_zero, List.set_cons_succ, Prod.forall] at hQ'
    clear hQ1
    rcases Bool.eq_false_or_eq_true y10 with hb | hb
    · rw [hb, Bool.true_or] at hy11
      rw [← hy11] at hQ'
      simp only [hb] at hQ'
      clear hy11 HZ
      iterate 7 (refine still_off (by first | rfl | (show (some y10 == some false) = false; rw [hb]; rfl)) ?_; simp only [Act.put, List.setIfInBounds_toArray, List.set_cons_zero, List.set_cons_succ])
      (refine still_on (by rfl) (fun K hK => ?_); go_simp; refine hK _ ?_; clear hK K)
      exact wpStill_nil (hQ' _ _ _ _ _ _ _)
    · rw [hb, Bool.false_or] at hy11
      rw [← hy11] at hQ'
      simp only [hb] at hQ'
      clear hy11 HZ
      refine still_on (by first | rfl | (show (some y10 == some false) = true; rw [hb]; rfl)) (fun K hK => ?_); go_simp; refine hK _ ?_; clear hK K
      refine still_on (by first | rfl | (show (some y10 == some false) = true; rw [hb]; rfl)) (fun K hK => ?_); go_simp; refine hK _ ?_; clear hK K
      refine still_on (by first | rfl | (show (some y10 == some false) = true; rw [hb]; rfl)) (fun K hK => ?_); go_simp; refine hK _ ?_; clear hK K
      refine still_on (by first | rfl | (show (some y10 == some false) = true; rw [hb]; rfl)) (fun K hK => ?_); go_simp; refine hK _ ?_; clear hK K
      refine still_on (by first | rfl | (show (some y10 == some false) = true; rw [hb]; rfl)) (fun K hK => ?_); go_simp; refine hK _ ?_; clear hK K
      refine still_on (by first | rfl | (show (some y10 == some false) = true; rw [hb]; rfl)) (fun K hK => ?_); go_simp; refine hK _ ?_; clear hK K
      refine still_on (by first | rfl | (show (some y10 == some false) = true; rw [hb]; rfl)) (fun K hK => ?_); go_simp; refine hK _ ?_; clear hK K
      (refine still_on (by rfl) (fun K hK => ?_); go_simp; refine hK _ ?_; clear hK K)
      exact wpStill_nil (hQ' _ _ _ _ _ _ _)
  obtain ⟨t86, t87, t88, t89, t90, t91, t92⟩ := s
  simp only [List.drop_succ_cons, List.drop_zero, Go.Proofs.YthphhogljniofaaDoorW.PrintLast.putAll, Act.put, List.setIfInBounds_toArray, List.set_cons_zero, List.set_cons_succ]
  iterate 1 (refine still_on (by rfl) (fun K hK => ?_); go_simp; refine hK _ ?_; clear hK K)
  refine still_join (σ := Value × Value × Value × Value × Value × Value × Value) 8 (fun s => [(95, s.1), (96, s.2.1), (97, s.2.2.1), (98, s.2.2.2.1), (99, s.2.2.2.2.1), (100, s.2.2.2.2.2.1), (101, s.2.2.2.2.2.2), (102, .bool y12)]) (fun Q' hQ' => ?_) (fun s => ?_)
  · simp only [List.take_succ_cons, List.take_zero]
    simp only [Go.Proofs.YthphhogljniofaaDoorW.PrintLast.putAll, Act.put, List.setIfInBounds_toArray, List.set_cons_zero, List.set_cons_succ, Prod.forall] at hQ'
    clear hQ1
    rcases Bool.eq_false_or_eq_true y11 with hb | hb
    · rw [hb, Bool.true_or] at hy12
      rw [← hy12] at hQ'
      simp only [hb] at hQ'
      clear hy12 HZ
      iterate 7 (refine still_off (by first | rfl | (show (some y11 == some false) = false; rw [hb]; rfl)) ?_; simp only [Act.put, List.setIfInBounds_toArray, List.set_cons_zero, List.set_cons_succ])
      (refine still_on (by rfl) (fun K hK => ?_); go_simp; refine hK _ ?_; clear hK K)
      exact wpStill_nil (hQ' _ _ _ _ _ _ _)
    · rw [hb, Bool.false_or] at hy12
      rw [← hy12] at hQ'
      simp only [hb] at hQ'
      clear hy12 HZ
      refine still_on (by first | rfl | (show (some y11 == some false) = true; rw [hb]; rfl)) (fun K hK => ?_); go_simp; refine hK _ ?_; clear hK K
      refine still_on (by first | rfl | (show (some y11 == some false) = true; rw [hb]; rfl)) (fun K hK => ?_); go_simp; refine hK _ ?_; clear hK K
      refine still_on (by first | rfl | (show (some y11 == some false) = true; rw [hb]; rfl)) (fun K hK => ?_); go_simp; refine hK _ ?_; clear hK K
      refine still_on (by first | rfl | (show (some y11 == some false) = true; rw [hb]; rfl)) (fun K hK => ?_); go_simp; refine hK _ ?_; clear hK K
      refine still_on (by first | rfl | (show (some y11 == some false) = true; rw [hb]; rfl)) (fun K hK => ?_); go_simp; refine hK _ ?_; clear hK K
      refine still_on (by first | rfl | (show (some y11 == some false) = true; rw [hb]; rfl)) (fun K hK => ?_); go_simp; refine hK _ ?_; clear hK K
      refine still_on (by first | rfl | (show (some y11 == some false) = true; rw [hb]; rfl)) (fun K hK => ?_); go_simp; refine hK _ ?_; clear hK K
      (refine still_on (by rfl) (fun K hK => ?_); go_simp; refine hK _ ?_; clear hK K)
      exact wpStill_nil (hQ' _ _ _ _ _ _ _)
  obtain ⟨t95, t96, t97, t98, t99, t100, t101⟩ := s
  simp only [List.drop_succ_cons, List.drop_zero, Go.Proofs.YthphhogljniofaaDoorW.PrintLast.putAll, Act.put, List.setIfInBounds_toArray, List.set_cons_zero, List.set_cons_succ]
  refine wpStill_nil (hQ1 _ ?_)
  clear hQ1 Q1 p0 q0 p1 q1 p2 q2 p3 q3 p4 q4 p5 q5 p6 q6 p7 q7 p8 q8 p9 q9 p10 q10 p11 q11 p12 q12
  rcases Bool.eq_false_or_eq_true y12 with hz | hz
  · have hne : x ≠ y := by
      intro he
      have h := HZ.out.2 hz
      subst he
      simp only [← HX0.out, ← HX1.out, ← HX2.out, ← HX3.out, ← HX4.out, ← HX5.out, ← HX6.out, ← HX7.out, ← HX8.out, ← HX9.out, ← HX10.out, ← HX11.out, ← HX12.out, bne_self_eq_false, beq_self_eq_true, Bool.not_true, Bool.false_eq_true, or_self] at h
      try exact absurd h (by simp)
    have HNE := Lib.hid hne
    clear hne HZ HX0 HX1 HX2 HX3 HX4 HX5 HX6 HX7 HX8 HX9 HX10 HX11 HX12 hx0 hx1 hx2 hx3 hx4 hx5 hx6 hx7 hx8 hx9 hx10 hx11 hx12 hy1 hy2 hy3 hy4 hy5 hy6 hy7 hy8 hy9 hy10 hy11 hy12
    subst hz
    go_wp2
    go_ret
    exact ⟨by rw [eqC_false HNE.out]; rfl, HT.out.2.2⟩
  · have hno : ¬ (x0 = true ∨ x1 = true ∨ x2 = true ∨ x3 = true ∨ x4 = true ∨ x5 = true ∨ x6 = true ∨ x7 = true ∨ x8 = true ∨ x9 = true ∨ x10 = true ∨ x11 = true ∨ x12 = true) := fun h => absurd (HZ.out.1 h) (by rw [hz]; decide)
    simp only [not_or, Bool.not_eq_true, ← HX0.out, ← HX1.out, ← HX2.out, ← HX3.out, ← HX4.out, ← HX5.out, ← HX6.out, ← HX7.out, ← HX8.out, ← HX9.out, ← HX10.out, ← HX11.out, ← HX12.out] at hno
    obtain ⟨e0, e1, e2, e3, e4, e5, e6, e7, e8, e9, e10, e11, e12⟩ := hno
    have HH := Lib.hid (show x.f0 = y.f0 ∧ x.f1 = y.f1 ∧ x.f2 = y.f2 ∧ x.f3 = y.f3 ∧ x.f4 = y.f4 ∧ x.f5 = y.f5 ∧ x.f6 = y.f6 ∧ x.f7 = y.f7 ∧ x.f8 = y.f8 ∧ x.f9 = y.f9 ∧ x.f10.length = y.f10.length ∧ x.f11.length = y.f11.length ∧ x.f12.length = y.f12.length from
      ⟨ba_list_eq.1 (by simpa using e0), bne_eq_false_iff_eq.1 e1, bne_eq_false_iff_eq.1 e2, bne_eq_false_iff_eq.1 e3, bne_eq_false_iff_eq.1 e4, bne_eq_false_iff_eq.1 e5, bne_eq_false_iff_eq.1 e6, bne_eq_false_iff_eq.1 e7, bne_eq_false_iff_eq.1 e8, ba_list_eq.1 (by simpa using e9), (by have := bne_eq_false_iff_eq.1 e10; omega), (by have := bne_eq_false_iff_eq.1 e11; omega), (by have := bne_eq_false_iff_eq.1 e12; omega)⟩)
    clear e0 e1 e2 e3 e4 e5 e6 e7 e8 e9 e10 e11 e12 HZ HX0 HX1 HX2 HX3 HX4 HX5 HX6 HX7 HX8 HX9 HX10 HX11 HX12 hx0 hx1 hx2 hx3 hx4 hx5 hx6 hx7 hx8 hx9 hx10 hx11 hx12 hy1 hy2 hy3 hy4 hy5 hy6 hy7 hy8 hy9 hy10 hy11 hy12
    subst hz
    go_wp2
    go_loopw [5] (fun i wr => ∃ k : Nat, k ≤ x.f10.length ∧ i = .int .i64 k ∧ Hid (ESt w wr #[.string x.f0, .int .u64 x.f1, .int .u64 x.f2, .int .u64 x.f3, .int .u64 x.f4, .int .u64 x.f5, .int .u64 x.f6, .int .u64 x.f7, .int .u64 x.f8, .string x.f9, .slice A0 x.f10.length a0, .slice A1 x.f11.length a1, .slice A2 x.f12.length a2] #[.string y.f0, .int .u64 y.f1, .int .u64 y.f2, .int .u64 y.f3, .int .u64 y.f4, .int .u64 y.f5, .int .u64 y.f6, .int .u64 y.f7, .int .u64 y.f8, .string y.f9, .slice B0 y.f10.length b0, .slice B1 y.f11.length b1, .slice B2 y.f12.length b2] ∧ x.f10.take k = y.f10.take k)) (fun i _ => x.f10.length - (intOf i).toNat)
    case atStart => exact ⟨0, Nat.zero_le _, rfl, Lib.hid ⟨HT.out, rfl⟩⟩
    case round =>
      obtain ⟨k, hk1, rfl, HR⟩ := hrel
      clear HT
      have hll : y.f10.length = x.f10.length := by have := HH.out; omega
      have hbd : x.f10.length ≤ 9223372036854775807 := HG0.out.2.1
      have r10 := blk_cell HR.out.1.1 10
      simp only [List.getElem?_toArray, List.getElem?_cons_succ, List.getElem?_cons_zero] at r10
      by_cases hlt : k < x.f10.length
      · obtain ⟨ad, hA, o0, o1, o2, o3, o4, o5, o6⟩ := at_T61 HG0.out (k : Int) (by omega) (by omega)
        obtain ⟨bd, hB, n0, n1, n2, n3, n4, n5, n6⟩ := at_T61 HJ0.out (k : Int) (by omega) (by omega)
        rw [Int.toNat_natCast] at o0 o1 o2 o3 o4 o5 o6 n0 n1 n2 n3 n4 n5 n6
        obtain ⟨u, hue⟩ : ∃ u, u = rd_T61 x.f10 (k : Int) := ⟨_, rfl⟩
        obtain ⟨v, hve⟩ : ∃ v, v = rd_T61 y.f10 (k : Int) := ⟨_, rfl⟩
        have hbl : k < y.f10.length := by omega
        have HU := Lib.hid (show x.f10[k] = u by rw [hue]; unfold rd_T61; rw [Int.toNat_natCast]; simp [List.getD, hlt])
        have HV := Lib.hid (show y.f10[k] = v by rw [hve]; unfold rd_T61; rw [Int.toNat_natCast]; simp [List.getD, hbl])
        rw [← hue] at o0 o1 o2 o3 o4 o5 o6
        rw [← hve] at n0 n1 n2 n3 n4 n5 n6
        clear hue hve
        subst hA
        subst hB
        go_upto_region 6 with (fail)
        clear r10
        obtain ⟨wd, hwd⟩ : ∃ wd, wd = wr.drew := ⟨_, rfl⟩
        have HTd := Lib.hid (show ESt w wd _ _ from by rw [hwd]; exact HR.out.1.below (below_drew1 (Below.refl _ _)))
        have HEQ := Lib.hid HR.out.2
        clear HR
        have p0 := (HTd.out.2.2.cell (World.block_lt_of_cell? w _ o0)).trans o0
        have q0 := (HTd.out.2.2.cell (World.block_lt_of_cell? w _ n0)).trans n0
        have p1 := (HTd.out.2.2.cell (World.block_lt_of_cell? w _ o1)).trans o1
        have q1 := (HTd.out.2.2.cell (World.block_lt_of_cell? w _ n1)).trans n1
        have p2 := (HTd.out.2.2.cell (World.block_lt_of_cell? w _ o2)).trans o2
        have q2 := (HTd.out.2.2.cell (World.block_lt_of_cell? w _ n2)).trans n2
        have p3 := (HTd.out.2.2.cell (World.block_lt_of_cell? w _ o3)).trans o3
        have q3 := (HTd.out.2.2.cell (World.block_lt_of_cell? w _ n3)).trans n3
        have p4 := (HTd.out.2.2.cell (World.block_lt_of_cell? w _ o4)).trans o4
        have q4 := (HTd.out.2.2.cell (World.block_lt_of_cell? w _ n4)).trans n4
        have p5 := (HTd.out.2.2.cell (World.block_lt_of_cell? w _ o5)).trans o5
        have q5 := (HTd.out.2.2.cell (World.block_lt_of_cell? w _ n5)).trans n5
        have p6 := (HTd.out.2.2.cell (World.block_lt_of_cell? w _ o6)).trans o6
        have q6 := (HTd.out.2.2.cell (World.block_lt_of_cell? w _ n6)).trans n6
        obtain ⟨nb, hnb⟩ : ∃ nb : Bool, (!(u.f0.toList == v.f0.toList) || (!(u.f1 == v.f1) || (!(u.f2 == v.f2) || (!(u.f3 == v.f3) || (!(u.f4 == v.f4) || (!(u.f5 == v.f5) || (!(u.f6 == v.f6)))))))) = nb := ⟨_, rfl⟩
        rw [hwd] at HTd p0 q0 p1 q1 p2 q2 p3 q3 p4 q4 p5 q5 p6 q6
        refine start_ (n := 11) (S := fun w' => w'.cell? ⟨w.heap.size, 10, none⟩ = some (.slice (some ad) x.f10.length a0) ∧ w'.cell? ⟨w.heap.size + 1, 10, none⟩ = some (.slice (some bd) y.f10.length b0) ∧ w'.cell? (ad.add (k * 7)) = some (.string u.f0) ∧ w'.cell? ⟨(ad.add (k * 7)).block, (ad.add (k * 7)).off + 1, none⟩ = some (.int .u64 u.f1) ∧ w'.cell? ⟨(ad.add (k * 7)).block, (ad.add (k * 7)).off + 2, none⟩ = some (.int .u64 u.f2) ∧ w'.cell? ⟨(ad.add (k * 7)).block, (ad.add (k * 7)).off + 3, none⟩ = some (.int .u64 u.f3) ∧ w'.cell? ⟨(ad.add (k * 7)).block, (ad.add (k * 7)).off + 4, none⟩ = some (.int .u64 u.f4) ∧ w'.cell? ⟨(ad.add (k * 7)).block, (ad.add (k * 7)).off + 5, none⟩ = some (.int .u64 u.f5) ∧ w'.cell? ⟨(ad.add (k * 7)).block, (ad.add (k * 7)).off + 6, none⟩ = some (.bool u.f6) ∧ w'.cell? (bd.add (k * 7)) = some (.string v.f0) ∧ w'.cell? ⟨(bd.add (k * 7)).block, (bd.add (k * 7)).off + 1, none⟩ = some (.int .u64 v.f1) ∧ w'.cell? ⟨(bd.add (k * 7)).block, (bd.add (k * 7)).off + 2, none⟩ = some (.int .u64 v.f2) ∧ w'.cell? ⟨(bd.add (k * 7)).block, (bd.add (k * 7)).off + 3, none⟩ = some (.int .u64 v.f3) ∧ w'.cell? ⟨(bd.add (k * 7)).block, (bd.add (k * 7)).off + 4, none⟩ = some (.int .u64 v.f4) ∧ w'.cell? ⟨(bd.add (k * 7)).block, (bd.add (k * 7)).off + 5, none⟩ = some (.int .u64 v.f5) ∧ w'.cell? ⟨(bd.add (k * 7)).block, (bd.add (k * 7)).off + 6, none⟩ = some (.bool v.f6)) (ds := []) #[false, false, false, false, false, false, false, false, false, false, false] (by kernel_rfl) (by rfl) (by rfl) ⟨blk_cell HTd.out.1 10, blk_cell HTd.out.2.1 10, p0, p1, p2, p3, p4, p5, p6, q0, q1, q2, q3, q4, q5, q6⟩ (fun hHeld => ?_)
        rw [← hwd] at HTd p0 q0 p1 q1 p2 q2 p3 q3 p4 q4 p5 q5 p6 q6 hHeld ⊢
        clear hwd
        refine pure_ (i := 0) (N := some 110) (v := ?_) (a' := ?_) #[true, false, false, false, false, false, false, false, false, false, false] rfl rfl (by kernel_rfl) (fun _ _ _ h => h) (Or.inl ⟨by rfl, ?_⟩) ?_ ?_
        rotate_left
        · intro w'
          go_simp
          with_reducible rfl
        rotate_left
        · simp only [Act.put, List.setIfInBounds_toArray, List.set_cons_zero, List.set_cons_succ]
          rfl
        refine pure_ (i := 2) (N := some 112) (v := ?_) (a' := ?_) #[true, false, true, false, false, false, false, false, false, false, false] rfl rfl (by kernel_rfl) (fun _ _ _ h => h) (Or.inl ⟨by rfl, ?_⟩) ?_ ?_
        rotate_left
        · intro w'
          go_simp
          with_reducible rfl
        rotate_left
        · simp only [Act.put, List.setIfInBounds_toArray, List.set_cons_zero, List.set_cons_succ]
          rfl
        refine pure_ (i := 5) (N := some 115) (v := ?_) (a' := ?_) #[true, false, true, false, false, true, false, false, false, false, false] rfl rfl (by kernel_rfl) (fun _ _ _ h => h) (Or.inl ⟨by rfl, ?_⟩) ?_ ?_
        rotate_left
        · intro w'
          go_simp
          with_reducible rfl
        rotate_left
        · simp only [Act.put, List.setIfInBounds_toArray, List.set_cons_zero, List.set_cons_succ]
          rfl
        refine pure_ (i := 7) (N := some 117) (v := ?_) (a' := ?_) #[true, false, true, false, false, true, false, true, false, false, false] rfl rfl (by kernel_rfl) (fun _ _ _ h => h) (Or.inl ⟨by rfl, ?_⟩) ?_ ?_
        rotate_left
        · intro w'
          go_simp
          with_reducible rfl
        rotate_left
        · simp only [Act.put, List.setIfInBounds_toArray, List.set_cons_zero, List.set_cons_succ]
          rfl
        refine take_ (i := 1) (N := some 111) (v := ?_) (a' := ?_) #[true, true, true, false, false, true, false, true, false, false, false] rfl rfl (by kernel_rfl) (fun _ _ _ h => h) (Or.inl ⟨by rfl, ?_⟩) hHeld ?_ ?_
        rotate_left
        · rintro w' ⟨s0, s1, s2, s3, s4, s5, s6, s7, s8, s9, s10, s11, s12, s13, s14, s15⟩
          go_simp
          with_reducible rfl
        rotate_left
        · simp only [Act.put, List.setIfInBounds_toArray, List.set_cons_zero, List.set_cons_succ]
          rfl
        refine take_ (i := 6) (N := some 116) (v := ?_) (a' := ?_) #[true, true, true, false, false, true, true, true, false, false, false] rfl rfl (by kernel_rfl) (fun _ _ _ h => h) (Or.inl ⟨by rfl, ?_⟩) hHeld ?_ ?_
        rotate_left
        · rintro w' ⟨s0, s1, s2, s3, s4, s5, s6, s7, s8, s9, s10, s11, s12, s13, s14, s15⟩
          go_simp
          with_reducible rfl
        rotate_left
        · simp only [Act.put, List.setIfInBounds_toArray, List.set_cons_zero, List.set_cons_succ]
          rfl
        refine pure_ (i := 3) (N := some 113) (v := ?_) (a' := ?_) #[true, true, true, true, false, true, true, true, false, false, false] rfl rfl (by kernel_rfl) (fun _ _ _ h => h) (Or.inl ⟨by rfl, ?_⟩) ?_ ?_
        rotate_left
        · intro w'
          go_simp
          with_reducible rfl
        rotate_left
        · simp only [Act.put, List.setIfInBounds_toArray, List.set_cons_zero, List.set_cons_succ]
          rfl
        refine pure_ (i := 8) (N := some 118) (v := ?_) (a' := ?_) #[true, true, true, true, false, true, true, true, true, false, false] rfl rfl (by kernel_rfl) (fun _ _ _ h => h) (Or.inl ⟨by rfl, ?_⟩) ?_ ?_
        rotate_left
        · intro w'
          go_simp
          with_reducible rfl
        rotate_left
        · simp only [Act.put, List.setIfInBounds_toArray, List.set_cons_zero, List.set_cons_succ]
          rfl
        refine take_ (i := 4) (N := some 114) (v := ?_) (a' := ?_) #[true, true, true, true, true, true, true, true, true, false, false] rfl rfl (by kernel_rfl) (fun _ _ _ h => h) (Or.inl ⟨by rfl, ?_⟩) hHeld ?_ ?_
        rotate_left
        · rintro w' ⟨s0, s1, s2, s3, s4, s5, s6, s7, s8, s9, s10, s11, s12, s13, s14, s15⟩
          go_simp
          with_reducible rfl
        rotate_left
        · simp only [Act.put, List.setIfInBounds_toArray, List.set_cons_zero, List.set_cons_succ]
          rfl
        refine take_ (i := 9) (N := some 119) (v := ?_) (a' := ?_) #[true, true, true, true, true, true, true, true, true, true, false] rfl rfl (by kernel_rfl) (fun _ _ _ h => h) (Or.inl ⟨by rfl, ?_⟩) hHeld ?_ ?_
        rotate_left
        · rintro w' ⟨s0, s1, s2, s3, s4, s5, s6, s7, s8, s9, s10, s11, s12, s13, s14, s15⟩
          go_simp
          with_reducible rfl
        rotate_left
        · simp only [Act.put, List.setIfInBounds_toArray, List.set_cons_zero, List.set_cons_succ]
          rfl
        refine pure_ (i := 10) (N := some 120) (v := ?_) (a' := ?_) #[true, true, true, true, true, true, true, true, true, true, true] rfl rfl (by kernel_rfl) (fun _ _ _ h => h) (Or.inl ⟨by rfl, ?_⟩) ?_ ?_
        rotate_left
        · intro w'
          go_simp
          with_reducible rfl
        rotate_left
        · simp only [Act.put, List.setIfInBounds_toArray, List.set_cons_zero, List.set_cons_succ]
          rfl
        refine done_ (by kernel_rfl) ?_
        clear p0 q0 o0 n0 p1 q1 o1 n1 p2 q2 o2 n2 p3 q3 o3 n3 p4 q4 o4 n4 p5 q5 o5 n5 p6 q6 o6 n6 hHeld
        by_cases huv : u = v
        · have hnf : nb = false := by rw [← hnb]; exact Bool.eq_false_iff.2 (fun h => (eqS_ne u v).1 h huv)
          subst hnf
          have HUV := Lib.hid huv
          clear huv
          go_wp2
          clear hnb
          go_roundw
          case rel => exact ⟨k + 1, by omega, by go_num, Lib.hid ⟨HTd.out, by rw [List.take_succ_eq_append_getElem hlt, List.take_succ_eq_append_getElem hbl, HU.out, HV.out, HUV.out, HEQ.out]⟩⟩
          case measure => simp [intOf]; omega
        · have hnf : nb = true := by rw [← hnb]; exact (eqS_ne u v).2 huv
          subst hnf
          have HUV := Lib.hid huv
          clear huv
          go_wp2
          go_ret
          refine ⟨?_, HTd.out.2.2⟩
          rw [eqC_false (fun h => HUV.out (by
            subst h
            exact HU.out.symm.trans HV.out))]
          rfl
      · have HL10 := Lib.hid (show x.f10 = y.f10 from by
          have h := HR.out.2
          rwa [List.take_of_length_le (by omega), List.take_of_length_le (by omega)] at h)
        have HT10 := Lib.hid HR.out.1
        clear HR hll
        go_wp2
        clear r10 hlt hk1
        go_loopw [6] (fun i wr => ∃ k : Nat, k ≤ x.f11.length ∧ i = .int .i64 k ∧ Hid (ESt w wr #[.string x.f0, .int .u64 x.f1, .int .u64 x.f2, .int .u64 x.f3, .int .u64 x.f4, .int .u64 x.f5, .int .u64 x.f6, .int .u64 x.f7, .int .u64 x.f8, .string x.f9, .slice A0 x.f10.length a0, .slice A1 x.f11.length a1, .slice A2 x.f12.length a2] #[.string y.f0, .int .u64 y.f1, .int .u64 y.f2, .int .u64 y.f3, .int .u64 y.f4, .int .u64 y.f5, .int .u64 y.f6, .int .u64 y.f7, .int .u64 y.f8, .string y.f9, .slice B0 y.f10.length b0, .slice B1 y.f11.length b1, .slice B2 y.f12.length b2] ∧ x.f11.take k = y.f11.take k)) (fun i _ => x.f11.length - (intOf i).toNat)
        case atStart => exact ⟨0, Nat.zero_le _, rfl, Lib.hid ⟨HT10.out, rfl⟩⟩
        case round =>
          obtain ⟨k, hk1, rfl, HR⟩ := hrel
          clear HT10
          have hll : y.f11.length = x.f11.length := by have := HH.out; omega
          have hbd : x.f11.length ≤ 9223372036854775807 := HG1.out.2.1
          have r11 := blk_cell HR.out.1.1 11
          simp only [List.getElem?_toArray, List.getElem?_cons_succ, List.getElem?_cons_zero] at r11
          by_cases hlt : k < x.f11.length
          · obtain ⟨ad, hA, o0, o1, o2, o3⟩ := at_T63 HG1.out (k : Int) (by omega) (by omega)
            obtain ⟨bd, hB, n0, n1, n2, n3⟩ := at_T63 HJ1.out (k : Int) (by omega) (by omega)
            rw [Int.toNat_natCast] at o0 o1 o2 o3 n0 n1 n2 n3
            obtain ⟨u, hue⟩ : ∃ u, u = rd_T63 x.f11 (k : Int) := ⟨_, rfl⟩
            obtain ⟨v, hve⟩ : ∃ v, v = rd_T63 y.f11 (k : Int) := ⟨_, rfl⟩
            have hbl : k < y.f11.length := by omega
            have HU := Lib.hid (show x.f11[k] = u by rw [hue]; unfold rd_T63; rw [Int.toNat_natCast]; simp [List.getD, hlt])
            have HV := Lib.hid (show y.f11[k] = v by rw [hve]; unfold rd_T63; rw [Int.toNat_natCast]; simp [List.getD, hbl])
            rw [← hue] at o0 o1 o2 o3
            rw [← hve] at n0 n1 n2 n3
            clear hue hve
            subst hA
            subst hB
            go_upto_region 11 with (fail)
            clear r11
            obtain ⟨wd, hwd⟩ : ∃ wd, wd = wr.drew := ⟨_, rfl⟩
            have HTd := Lib.hid (show ESt w wd _ _ from by rw [hwd]; exact HR.out.1.below (below_drew1 (Below.refl _ _)))
            have HEQ := Lib.hid HR.out.2
            clear HR
            have p0 := (HTd.out.2.2.cell (World.block_lt_of_cell? w _ o0)).trans o0
            have q0 := (HTd.out.2.2.cell (World.block_lt_of_cell? w _ n0)).trans n0
            have p1 := (HTd.out.2.2.cell (World.block_lt_of_cell? w _ o1)).trans o1
            have q1 := (HTd.out.2.2.cell (World.block_lt_of_cell? w _ n1)).trans n1
            have p2 := (HTd.out.2.2.cell (World.block_lt_of_cell? w _ o2)).trans o2
            have q2 := (HTd.out.2.2.cell (World.block_lt_of_cell? w _ n2)).trans n2
            have p3 := (HTd.out.2.2.cell (World.block_lt_of_cell? w _ o3)).trans o3
            have q3 := (HTd.out.2.2.cell (World.block_lt_of_cell? w _ n3)).trans n3
            obtain ⟨nb, hnb⟩ : ∃ nb : Bool, (!(u.f0 == v.f0) || (!(u.f1 == v.f1) || (!(u.f2 == v.f2) || (!(u.f3 == v.f3))))) = nb := ⟨_, rfl⟩
            rw [hwd] at HTd p0 q0 p1 q1 p2 q2 p3 q3
            refine start_ (n := 11) (S := fun w' => w'.cell? ⟨w.heap.size, 11, none⟩ = some (.slice (some ad) x.f11.length a1) ∧ w'.cell? ⟨w.heap.size + 1, 11, none⟩ = some (.slice (some bd) y.f11.length b1) ∧ w'.cell? (ad.add (k * 4)) = some (.int .u64 u.f0) ∧ w'.cell? ⟨(ad.add (k * 4)).block, (ad.add (k * 4)).off + 1, none⟩ = some (.int .u64 u.f1) ∧ w'.cell? ⟨(ad.add (k * 4)).block, (ad.add (k * 4)).off + 2, none⟩ = some (.int .u64 u.f2) ∧ w'.cell? ⟨(ad.add (k * 4)).block, (ad.add (k * 4)).off + 3, none⟩ = some (.int .u64 u.f3) ∧ w'.cell? (bd.add (k * 4)) = some (.int .u64 v.f0) ∧ w'.cell? ⟨(bd.add (k * 4)).block, (bd.add (k * 4)).off + 1, none⟩ = some (.int .u64 v.f1) ∧ w'.cell? ⟨(bd.add (k * 4)).block, (bd.add (k * 4)).off + 2, none⟩ = some (.int .u64 v.f2) ∧ w'.cell? ⟨(bd.add (k * 4)).block, (bd.add (k * 4)).off + 3, none⟩ = some (.int .u64 v.f3)) (ds := []) #[false, false, false, false, false, false, false, false, false, false, false] (by kernel_rfl) (by rfl) (by rfl) ⟨blk_cell HTd.out.1 11, blk_cell HTd.out.2.1 11, p0, p1, p2, p3, q0, q1, q2, q3⟩ (fun hHeld => ?_)
            rw [← hwd] at HTd p0 q0 p1 q1 p2 q2 p3 q3 hHeld ⊢
            clear hwd
            refine pure_ (i := 0) (N := some 128) (v := ?_) (a' := ?_) #[true, false, false, false, false, false, false, false, false, false, false] rfl rfl (by kernel_rfl) (fun _ _ _ h => h) (Or.inl ⟨by rfl, ?_⟩) ?_ ?_
            rotate_left
            · intro w'
              go_simp
              with_reducible rfl
            rotate_left
            · simp only [Act.put, List.setIfInBounds_toArray, List.set_cons_zero, List.set_cons_succ]
              rfl
            refine pure_ (i := 2) (N := some 130) (v := ?_) (a' := ?_) #[true, false, true, false, false, false, false, false, false, false, false] rfl rfl (by kernel_rfl) (fun _ _ _ h => h) (Or.inl ⟨by rfl, ?_⟩) ?_ ?_
            rotate_left
            · intro w'
              go_simp
              with_reducible rfl
            rotate_left
            · simp only [Act.put, List.setIfInBounds_toArray, List.set_cons_zero, List.set_cons_succ]
              rfl
            refine pure_ (i := 5) (N := some 133) (v := ?_) (a' := ?_) #[true, false, true, false, false, true, false, false, false, false, false] rfl rfl (by kernel_rfl) (fun _ _ _ h => h) (Or.inl ⟨by rfl, ?_⟩) ?_ ?_
            rotate_left
            · intro w'
              go_simp
              with_reducible rfl
            rotate_left
            · simp only [Act.put, List.setIfInBounds_toArray, List.set_cons_zero, List.set_cons_succ]
              rfl
            refine pure_ (i := 7) (N := some 135) (v := ?_) (a' := ?_) #[true, false, true, false, false, true, false, true, false, false, false] rfl rfl (by kernel_rfl) (fun _ _ _ h => h) (Or.inl ⟨by rfl, ?_⟩) ?_ ?_
            rotate_left
            · intro w'
              go_simp
              with_reducible rfl
            rotate_left
            · simp only [Act.put, List.setIfInBounds_toArray, List.set_cons_zero, List.set_cons_succ]
              rfl
            refine take_ (i := 1) (N := some 129) (v := ?_) (a' := ?_) #[true, true, true, false, false, true, false, true, false, false, false] rfl rfl (by kernel_rfl) (fun _ _ _ h => h) (Or.inl ⟨by rfl, ?_⟩) hHeld ?_ ?_
            rotate_left
            · rintro w' ⟨s0, s1, s2, s3, s4, s5, s6, s7, s8, s9⟩
              go_simp
              with_reducible rfl
            rotate_left
            · simp only [Act.put, List.setIfInBounds_toArray, List.set_cons_zero, List.set_cons_succ]
              rfl
            refine take_ (i := 6) (N := some 134) (v := ?_) (a' := ?_) #[true, true, true, false, false, true, true, true, false, false, false] rfl rfl (by kernel_rfl) (fun _ _ _ h => h) (Or.inl ⟨by rfl, ?_⟩) hHeld ?_ ?_
            rotate_left
            · rintro w' ⟨s0, s1, s2, s3, s4, s5, s6, s7, s8, s9⟩
              go_simp
              with_reducible rfl
            rotate_left
            · simp only [Act.put, List.setIfInBounds_toArray, List.set_cons_zero, List.set_cons_succ]
              rfl
            refine pure_ (i := 3) (N := some 131) (v := ?_) (a' := ?_) #[true, true, true, true, false, true, true, true, false, false, false] rfl rfl (by kernel_rfl) (fun _ _ _ h => h) (Or.inl ⟨by rfl, ?_⟩) ?_ ?_
            rotate_left
            · intro w'
              go_simp
              with_reducible rfl
            rotate_left
            · simp only [Act.put, List.setIfInBounds_toArray, List.set_cons_zero, List.set_cons_succ]
              rfl
            refine pure_ (i := 8) (N := some 136) (v := ?_) (a' := ?_) #[true, true, true, true, false, true, true, true, true, false, false] rfl rfl (by kernel_rfl) (fun _ _ _ h => h) (Or.inl ⟨by rfl, ?_⟩) ?_ ?_
            rotate_left
            · intro w'
              go_simp
              with_reducible rfl
            rotate_left
            · simp only [Act.put, List.setIfInBounds_toArray, List.set_cons_zero, List.set_cons_succ]
              rfl
            refine take_ (i := 4) (N := some 132) (v := ?_) (a' := ?_) #[true, true, true, true, true, true, true, true, true, false, false] rfl rfl (by kernel_rfl) (fun _ _ _ h => h) (Or.inl ⟨by rfl, ?_⟩) hHeld ?_ ?_
            rotate_left
            · rintro w' ⟨s0, s1, s2, s3, s4, s5, s6, s7, s8, s9⟩
              go_simp
              with_reducible rfl
            rotate_left
            · simp only [Act.put, List.setIfInBounds_toArray, List.set_cons_zero, List.set_cons_succ]
              rfl
            refine take_ (i := 9) (N := some 137) (v := ?_) (a' := ?_) #[true, true, true, true, true, true, true, true, true, true, false] rfl rfl (by kernel_rfl) (fun _ _ _ h => h) (Or.inl ⟨by rfl, ?_⟩) hHeld ?_ ?_
            rotate_left
            · rintro w' ⟨s0, s1, s2, s3, s4, s5, s6, s7, s8, s9⟩
              go_simp
              with_reducible rfl
            rotate_left
            · simp only [Act.put, List.setIfInBounds_toArray, List.set_cons_zero, List.set_cons_succ]
              rfl
            refine pure_ (i := 10) (N := some 138) (v := ?_) (a' := ?_) #[true, true, true, true, true, true, true, true, true, true, true] rfl rfl (by kernel_rfl) (fun _ _ _ h => h) (Or.inl ⟨by rfl, ?_⟩) ?_ ?_
            rotate_left
            · intro w'
              go_simp
              with_reducible rfl
            rotate_left
            · simp only [Act.put, List.setIfInBounds_toArray, List.set_cons_zero, List.set_cons_succ]
              rfl
            refine done_ (by kernel_rfl) ?_
            clear p0 q0 o0 n0 p1 q1 o1 n1 p2 q2 o2 n2 p3 q3 o3 n3 hHeld
            by_cases huv : u = v
            · have hnf : nb = false := by rw [← hnb]; exact Bool.eq_false_iff.2 (fun h => (eqR_ne u v).1 h huv)
              subst hnf
              have HUV := Lib.hid huv
              clear huv
              go_wp2
              clear hnb
              go_roundw
              case rel => exact ⟨k + 1, by omega, by go_num, Lib.hid ⟨HTd.out, by rw [List.take_succ_eq_append_getElem hlt, List.take_succ_eq_append_getElem hbl, HU.out, HV.out, HUV.out, HEQ.out]⟩⟩
              case measure => simp [intOf]; omega
            · have hnf : nb = true := by rw [← hnb]; exact (eqR_ne u v).2 huv
              subst hnf
              have HUV := Lib.hid huv
              clear huv
              go_wp2
              go_ret
              refine ⟨?_, HTd.out.2.2⟩
              rw [eqC_false (fun h => HUV.out (by
                subst h
                exact HU.out.symm.trans HV.out))]
              rfl
          · have HL11 := Lib.hid (show x.f11 = y.f11 from by
              have h := HR.out.2
              rwa [List.take_of_length_le (by omega), List.take_of_length_le (by omega)] at h)
            have HT11 := Lib.hid HR.out.1
            clear HR hll
            go_wp2
            clear r11 hlt hk1
            go_loopw [7] (fun i wr => ∃ k : Nat, k ≤ x.f12.length ∧ i = .int .i64 k ∧ Hid (ESt w wr #[.string x.f0, .int .u64 x.f1, .int .u64 x.f2, .int .u64 x.f3, .int .u64 x.f4, .int .u64 x.f5, .int .u64 x.f6, .int .u64 x.f7, .int .u64 x.f8, .string x.f9, .slice A0 x.f10.length a0, .slice A1 x.f11.length a1, .slice A2 x.f12.length a2] #[.string y.f0, .int .u64 y.f1, .int .u64 y.f2, .int .u64 y.f3, .int .u64 y.f4, .int .u64 y.f5, .int .u64 y.f6, .int .u64 y.f7, .int .u64 y.f8, .string y.f9, .slice B0 y.f10.length b0, .slice B1 y.f11.length b1, .slice B2 y.f12.length b2] ∧ x.f12.take k = y.f12.take k)) (fun i _ => x.f12.length - (intOf i).toNat)
            case atStart => exact ⟨0, Nat.zero_le _, rfl, Lib.hid ⟨HT11.out, rfl⟩⟩
            case round =>
              obtain ⟨k, hk1, rfl, HR⟩ := hrel
              clear HT11
              have hll : y.f12.length = x.f12.length := by have := HH.out; omega
              have hbd : x.f12.length ≤ 9223372036854775807 := HG2.out.2.1
              have r12 := blk_cell HR.out.1.1 12
              simp only [List.getElem?_toArray, List.getElem?_cons_succ, List.getElem?_cons_zero] at r12
              by_cases hlt : k < x.f12.length
              · obtain ⟨ad, hA, o0⟩ := Kd.at_int HG2.out (k : Int) (by omega) (by omega)
                obtain ⟨bd, hB, n0⟩ := Kd.at_int HJ2.out (k : Int) (by omega) (by omega)
                rw [Int.toNat_natCast] at o0 n0
                obtain ⟨u, hue⟩ : ∃ u, u = rd x.f12 (k : Int) := ⟨_, rfl⟩
                obtain ⟨v, hve⟩ : ∃ v, v = rd y.f12 (k : Int) := ⟨_, rfl⟩
                have hbl : k < y.f12.length := by omega
                have HU := Lib.hid (show x.f12[k] = u by rw [hue]; unfold rd; rw [Int.toNat_natCast]; simp [List.getD, hlt])
                have HV := Lib.hid (show y.f12[k] = v by rw [hve]; unfold rd; rw [Int.toNat_natCast]; simp [List.getD, hbl])
                rw [← hue] at o0
                rw [← hve] at n0
                clear hue hve
                subst hA
                subst hB
                go_upto_region 16 with (fail)
                clear r12
                obtain ⟨wd, hwd⟩ : ∃ wd, wd = wr.drew := ⟨_, rfl⟩
                have HTd := Lib.hid (show ESt w wd _ _ from by rw [hwd]; exact HR.out.1.below (below_drew1 (Below.refl _ _)))
                have HEQ := Lib.hid HR.out.2
                clear HR
                have p0 := (HTd.out.2.2.cell (World.block_lt_of_cell? w _ o0)).trans o0
                have q0 := (HTd.out.2.2.cell (World.block_lt_of_cell? w _ n0)).trans n0
                obtain ⟨nb, hnb⟩ : ∃ nb : Bool, (u != v) = nb := ⟨_, rfl⟩
                rw [hwd] at HTd p0 q0
                refine start_ (n := 11) (S := fun w' => w'.cell? ⟨w.heap.size, 12, none⟩ = some (.slice (some ad) x.f12.length a2) ∧ w'.cell? ⟨w.heap.size + 1, 12, none⟩ = some (.slice (some bd) y.f12.length b2) ∧ w'.cell? (ad.add k) = some (.int .u64 u) ∧ w'.cell? (bd.add k) = some (.int .u64 v)) (ds := []) #[false, false, false, false, false, false, false, false, false, false, false] (by kernel_rfl) (by rfl) (by rfl) ⟨blk_cell HTd.out.1 12, blk_cell HTd.out.2.1 12, p0, q0⟩ (fun hHeld => ?_)
                rw [← hwd] at HTd p0 q0 hHeld ⊢
                clear hwd
                refine pure_ (i := 0) (N := some 146) (v := ?_) (a' := ?_) #[true, false, false, false, false, false, false, false, false, false, false] rfl rfl (by kernel_rfl) (fun _ _ _ h => h) (Or.inl ⟨by rfl, ?_⟩) ?_ ?_
                rotate_left
                · intro w'
                  go_simp
                  with_reducible rfl
                rotate_left
                · simp only [Act.put, List.setIfInBounds_toArray, List.set_cons_zero, List.set_cons_succ]
                  rfl
                refine pure_ (i := 2) (N := some 148) (v := ?_) (a' := ?_) #[true, false, true, false, false, false, false, false, false, false, false] rfl rfl (by kernel_rfl) (fun _ _ _ h => h) (Or.inl ⟨by rfl, ?_⟩) ?_ ?_
                rotate_left
                · intro w'
                  go_simp
                  with_reducible rfl
                rotate_left
                · simp only [Act.put, List.setIfInBounds_toArray, List.set_cons_zero, List.set_cons_succ]
                  rfl
                refine pure_ (i := 5) (N := some 151) (v := ?_) (a' := ?_) #[true, false, true, false, false, true, false, false, false, false, false] rfl rfl (by kernel_rfl) (fun _ _ _ h => h) (Or.inl ⟨by rfl, ?_⟩) ?_ ?_
                rotate_left
                · intro w'
                  go_simp
                  with_reducible rfl
                rotate_left
                · simp only [Act.put, List.setIfInBounds_toArray, List.set_cons_zero, List.set_cons_succ]
                  rfl
                refine pure_ (i := 7) (N := some 153) (v := ?_) (a' := ?_) #[true, false, true, false, false, true, false, true, false, false, false] rfl rfl (by kernel_rfl) (fun _ _ _ h => h) (Or.inl ⟨by rfl, ?_⟩) ?_ ?_
                rotate_left
                · intro w'
                  go_simp
                  with_reducible rfl
                rotate_left
                · simp only [Act.put, List.setIfInBounds_toArray, List.set_cons_zero, List.set_cons_succ]
                  rfl
                refine take_ (i := 1) (N := some 147) (v := ?_) (a' := ?_) #[true, true, true, false, false, true, false, true, false, false, false] rfl rfl (by kernel_rfl) (fun _ _ _ h => h) (Or.inl ⟨by rfl, ?_⟩) hHeld ?_ ?_
                rotate_left
                · rintro w' ⟨s0, s1, s2, s3⟩
                  go_simp
                  with_reducible rfl
                rotate_left
                · simp only [Act.put, List.setIfInBounds_toArray, List.set_cons_zero, List.set_cons_succ]
                  rfl
                refine take_ (i := 6) (N := some 152) (v := ?_) (a' := ?_) #[true, true, true, false, false, true, true, true, false, false, false] rfl rfl (by kernel_rfl) (fun _ _ _ h => h) (Or.inl ⟨by rfl, ?_⟩) hHeld ?_ ?_
                rotate_left
                · rintro w' ⟨s0, s1, s2, s3⟩
                  go_simp
                  with_reducible rfl
                rotate_left
                · simp only [Act.put, List.setIfInBounds_toArray, List.set_cons_zero, List.set_cons_succ]
                  rfl
                refine pure_ (i := 3) (N := some 149) (v := ?_) (a' := ?_) #[true, true, true, true, false, true, true, true, false, false, false] rfl rfl (by kernel_rfl) (fun _ _ _ h => h) (Or.inl ⟨by rfl, ?_⟩) ?_ ?_
                rotate_left
                · intro w'
                  go_simp
                  with_reducible rfl
                rotate_left
                · simp only [Act.put, List.setIfInBounds_toArray, List.set_cons_zero, List.set_cons_succ]
                  rfl
                refine pure_ (i := 8) (N := some 154) (v := ?_) (a' := ?_) #[true, true, true, true, false, true, true, true, true, false, false] rfl rfl (by kernel_rfl) (fun _ _ _ h => h) (Or.inl ⟨by rfl, ?_⟩) ?_ ?_
                rotate_left
                · intro w'
                  go_simp
                  with_reducible rfl
                rotate_left
                · simp only [Act.put, List.setIfInBounds_toArray, List.set_cons_zero, List.set_cons_succ]
                  rfl
                refine take_ (i := 4) (N := some 150) (v := ?_) (a' := ?_) #[true, true, true, true, true, true, true, true, true, false, false] rfl rfl (by kernel_rfl) (fun _ _ _ h => h) (Or.inl ⟨by rfl, ?_⟩) hHeld ?_ ?_
                rotate_left
                · rintro w' ⟨s0, s1, s2, s3⟩
                  go_simp
                  with_reducible rfl
                rotate_left
                · simp only [Act.put, List.setIfInBounds_toArray, List.set_cons_zero, List.set_cons_succ]
                  rfl
                refine take_ (i := 9) (N := some 155) (v := ?_) (a' := ?_) #[true, true, true, true, true, true, true, true, true, true, false] rfl rfl (by kernel_rfl) (fun _ _ _ h => h) (Or.inl ⟨by rfl, ?_⟩) hHeld ?_ ?_
                rotate_left
                · rintro w' ⟨s0, s1, s2, s3⟩
                  go_simp
                  with_reducible rfl
                rotate_left
                · simp only [Act.put, List.setIfInBounds_toArray, List.set_cons_zero, List.set_cons_succ]
                  rfl
                refine pure_ (i := 10) (N := some 156) (v := ?_) (a' := ?_) #[true, true, true, true, true, true, true, true, true, true, true] rfl rfl (by kernel_rfl) (fun _ _ _ h => h) (Or.inl ⟨by rfl, ?_⟩) ?_ ?_
                rotate_left
                · intro w'
                  go_simp
                  with_reducible rfl
                rotate_left
                · simp only [Act.put, List.setIfInBounds_toArray, List.set_cons_zero, List.set_cons_succ]
                  rfl
                refine done_ (by kernel_rfl) ?_
                clear p0 q0 o0 n0 hHeld
                by_cases huv : u = v
                · have hnf : nb = false := by rw [← hnb]; exact Bool.eq_false_iff.2 (fun h => (eqI_ne u v).1 h huv)
                  subst hnf
                  have HUV := Lib.hid huv
                  clear huv
                  go_wp2
                  clear hnb
                  go_roundw
                  case rel => exact ⟨k + 1, by omega, by go_num, Lib.hid ⟨HTd.out, by rw [List.take_succ_eq_append_getElem hlt, List.take_succ_eq_append_getElem hbl, HU.out, HV.out, HUV.out, HEQ.out]⟩⟩
                  case measure => simp [intOf]; omega
                · have hnf : nb = true := by rw [← hnb]; exact (eqI_ne u v).2 huv
                  subst hnf
                  have HUV := Lib.hid huv
                  clear huv
                  go_wp2
                  go_ret
                  refine ⟨?_, HTd.out.2.2⟩
                  rw [eqC_false (fun h => HUV.out (by
                    subst h
                    exact HU.out.symm.trans HV.out))]
                  rfl
              · have HL12 := Lib.hid (show x.f12 = y.f12 from by
                  have h := HR.out.2
                  rwa [List.take_of_length_le (by omega), List.take_of_length_le (by omega)] at h)
                have HT12 := Lib.hid HR.out.1
                clear HR hll
                go_wp2
                clear r12 hlt hk1
                go_ret
                refine ⟨?_, HT12.out.2.2⟩
                rw [eqC_true (by
                  obtain ⟨h0, h1, h2, h3, h4, h5, h6, h7, h8, h9, _⟩ := HH.out
                  have h10 := HL10.out
                  have h11 := HL11.out
                  have h12 := HL12.out
                  cases x
                  cases y
                  simp only at h0 h1 h2 h3 h4 h5 h6 h7 h8 h9 h10 h11 h12
                  subst h0 h1 h2 h3 h4 h5 h6 h7 h8 h9 h10 h11 h12
                  rfl)]
                rfl
end Go.Proofs.YthphhogljniofaaDoor

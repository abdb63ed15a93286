/- Contracts over this translation, two models: alike. -/
import Derived.Test.YthphhogljniofaaDoorXKdM17W
import Derived.Test.YthphhogljniofaaDoorXKdM17P
namespace Go.Proofs.YthphhogljniofaaDoor
set_option linter.unusedVariables false
set_option linter.unusedSimpArgs false
open Go.RowKit Go.Proofs.YthphhogljniofaaDoorX.Kd Go.Proofs.YthphhogljniofaaDoorW.PrintWords Go.Proofs.YthphhogljniofaaDoorW.PrintLast Go.Proofs.YthphhogljniofaaDoorW.PrintMore
attribute [local go_sem high] eqA32 eqA65

set_option maxRecDepth 100000 in
set_option maxHeartbeats 32000000 in
theorem alike_any (a b : MdD) (ha : a.L.length ≤ 16) (hd : a.D.length ≤ 16) (A9 A10 B9 B10 : Option Addr) (c9 c10 d9 d10 : Nat) (w : World) (hA9 : Kd.C k58 w A9 a.L.length a.L) (hA10 : Kd.C k65 w A10 a.D.length a.D) (hB9 : Kd.C k58 w B9 b.L.length b.L) (hB10 : Kd.C k65 w B10 b.D.length b.D) :
  Calls Tryd.prog 11 #[.agg #[.bool a.big, .bool a.wide, .int .u8 a.abi, .int .u8 a.ver, .string a.pad, .int .u64 a.ty, .int .u64 a.mc, .int .u64 a.en, .int .u64 a.fg, .int .u64 a.nm, .slice A9 a.L.length c9, .slice A10 a.D.length c10], .agg #[.bool b.big, .bool b.wide, .int .u8 b.abi, .int .u8 b.ver, .string b.pad, .int .u64 b.ty, .int .u64 b.mc, .int .u64 b.en, .int .u64 b.fg, .int .u64 b.nm, .slice B9 b.L.length d9, .slice B10 b.D.length d10]] w fun e w' => e = .returned (.bool (eqC (diffR a b) ⟨#[]⟩)) ∧ Below w.heap.size w w' := by
 have HA9 := Lib.hid hA9
 have HA10 := Lib.hid hA10
 have HB9 := Lib.hid hB9
 have HB10 := Lib.hid hB10
 clear hA9 hA10 hB9 hB10
 go_enter Tryd.func11, Tryd.ntmps11
 go_upto_region 1 with (fail)
 obtain ⟨wA, hwA⟩ : ∃ wA, wA = (w.alloc (.cells #[.bool a.big, .bool a.wide, .int .u8 a.abi, .int .u8 a.ver, .string a.pad, .int .u64 a.ty, .int .u64 a.mc, .int .u64 a.en, .int .u64 a.fg, .int .u64 a.nm, .slice A9 a.L.length c9, .slice A10 a.D.length c10] 39)).alloc (.cells #[.bool b.big, .bool b.wide, .int .u8 b.abi, .int .u8 b.ver, .string b.pad, .int .u64 b.ty, .int .u64 b.mc, .int .u64 b.en, .int .u64 b.fg, .int .u64 b.nm, .slice B9 b.L.length d9, .slice B10 b.D.length d10] 39) := ⟨_, rfl⟩
 have HT := Lib.hid (show DSt w wA #[.bool a.big, .bool a.wide, .int .u8 a.abi, .int .u8 a.ver, .string a.pad, .int .u64 a.ty, .int .u64 a.mc, .int .u64 a.en, .int .u64 a.fg, .int .u64 a.nm, .slice A9 a.L.length c9, .slice A10 a.D.length c10] #[.bool b.big, .bool b.wide, .int .u8 b.abi, .int .u8 b.ver, .string b.pad, .int .u64 b.ty, .int .u64 b.mc, .int .u64 b.en, .int .u64 b.fg, .int .u64 b.nm, .slice B9 b.L.length d9, .slice B10 b.D.length d10] from by
  have h1 := blk_new (w.alloc (.cells #[.bool a.big, .bool a.wide, .int .u8 a.abi, .int .u8 a.ver, .string a.pad, .int .u64 a.ty, .int .u64 a.mc, .int .u64 a.en, .int .u64 a.fg, .int .u64 a.nm, .slice A9 a.L.length c9, .slice A10 a.D.length c10] 39)) (.cells #[.bool b.big, .bool b.wide, .int .u8 b.abi, .int .u8 b.ver, .string b.pad, .int .u64 b.ty, .int .u64 b.mc, .int .u64 b.en, .int .u64 b.fg, .int .u64 b.nm, .slice B9 b.L.length d9, .slice B10 b.D.length d10] 39)
  rw [World.size_alloc] at h1
  rw [hwA]
  exact ⟨blk_alloc (blk_new w _) _, h1, ((Below.refl _ _).alloc (Nat.le_refl _) _).alloc (by simp) _⟩)
 rw [← hwA]
 clear hwA
 have p0 := blk_cell HT.out.1 0
 have q0 := blk_cell HT.out.2.1 0
 have p1 := blk_cell HT.out.1 1
 have q1 := blk_cell HT.out.2.1 1
 have p2 := blk_cell HT.out.1 2
 have q2 := blk_cell HT.out.2.1 2
 have p3 := blk_cell HT.out.1 3
 have q3 := blk_cell HT.out.2.1 3
 have p4 := blk_cell HT.out.1 4
 have q4 := blk_cell HT.out.2.1 4
 have p5 := blk_cell HT.out.1 5
 have q5 := blk_cell HT.out.2.1 5
 have p6 := blk_cell HT.out.1 6
 have q6 := blk_cell HT.out.2.1 6
 have p7 := blk_cell HT.out.1 7
 have q7 := blk_cell HT.out.2.1 7
 have p8 := blk_cell HT.out.1 8
 have q8 := blk_cell HT.out.2.1 8
 have p9 := blk_cell HT.out.1 9
 have q9 := blk_cell HT.out.2.1 9
 have p10 := blk_cell HT.out.1 10
 have q10 := blk_cell HT.out.2.1 10
 have p11 := blk_cell HT.out.1 11
 have q11 := blk_cell HT.out.2.1 11
 simp only [gA_, gB_, gC_] at p0 q0 p1 q1 p2 q2 p3 q3 p4 q4 p5 q5 p6 q6 p7 q7 p8 q8 p9 q9 p10 q10 p11 q11
 obtain ⟨x0, hx0⟩ : ∃ x0 : Bool, (!(a.big == b.big) || !(a.wide == b.wide)) = x0 := ⟨_, rfl⟩
 have HX0 := Lib.hid hx0
 obtain ⟨x1, hx1⟩ : ∃ x1 : Bool, (a.abi != b.abi) = x1 := ⟨_, rfl⟩
 have HX1 := Lib.hid hx1
 obtain ⟨x2, hx2⟩ : ∃ x2 : Bool, (a.ver != b.ver) = x2 := ⟨_, rfl⟩
 have HX2 := Lib.hid hx2
 obtain ⟨x3, hx3⟩ : ∃ x3 : Bool, (a.ty != b.ty) = x3 := ⟨_, rfl⟩
 have HX3 := Lib.hid hx3
 obtain ⟨x4, hx4⟩ : ∃ x4 : Bool, (a.mc != b.mc) = x4 := ⟨_, rfl⟩
 have HX4 := Lib.hid hx4
 obtain ⟨x5, hx5⟩ : ∃ x5 : Bool, (a.en != b.en) = x5 := ⟨_, rfl⟩
 have HX5 := Lib.hid hx5
 obtain ⟨x6, hx6⟩ : ∃ x6 : Bool, (a.fg != b.fg) = x6 := ⟨_, rfl⟩
 have HX6 := Lib.hid hx6
 obtain ⟨x7, hx7⟩ : ∃ x7 : Bool, (a.nm != b.nm) = x7 := ⟨_, rfl⟩
 have HX7 := Lib.hid hx7
 obtain ⟨x8, hx8⟩ : ∃ x8 : Bool, ((a.L.length : Int) != (b.L.length : Int)) = x8 := ⟨_, rfl⟩
 have HX8 := Lib.hid hx8
 obtain ⟨x9, hx9⟩ : ∃ x9 : Bool, ((a.D.length : Int) != (b.D.length : Int)) = x9 := ⟨_, rfl⟩
 have HX9 := Lib.hid hx9
 obtain ⟨y1, hy1⟩ : ∃ y1 : Bool, (x0 || x1) = y1 := ⟨_, rfl⟩
 obtain ⟨y2, hy2⟩ : ∃ y2 : Bool, (y1 || x2) = y2 := ⟨_, rfl⟩
 obtain ⟨y3, hy3⟩ : ∃ y3 : Bool, (y2 || x3) = y3 := ⟨_, rfl⟩
 obtain ⟨y4, hy4⟩ : ∃ y4 : Bool, (y3 || x4) = y4 := ⟨_, rfl⟩
 obtain ⟨y5, hy5⟩ : ∃ y5 : Bool, (y4 || x5) = y5 := ⟨_, rfl⟩
 obtain ⟨y6, hy6⟩ : ∃ y6 : Bool, (y5 || x6) = y6 := ⟨_, rfl⟩
 obtain ⟨y7, hy7⟩ : ∃ y7 : Bool, (y6 || x7) = y7 := ⟨_, rfl⟩
 obtain ⟨y8, hy8⟩ : ∃ y8 : Bool, (y7 || x8) = y8 := ⟨_, rfl⟩
 obtain ⟨y9, hy9⟩ : ∃ y9 : Bool, (y8 || x9) = y9 := ⟨_, rfl⟩
 have HZ := Lib.hid (show (x0 = true ∨ x1 = true ∨ x2 = true ∨ x3 = true ∨ x4 = true ∨ x5 = true ∨ x6 = true ∨ x7 = true ∨ x8 = true ∨ x9 = true) ↔ y9 = true by rw [← hy9, ← hy8, ← hy7, ← hy6, ← hy5, ← hy4, ← hy3, ← hy2, ← hy1]; simp [or_assoc])
 refine wp_region_lit (wpList_of_still _ _ ?_)
 refine still_hide (fun Q1 hQ1 => ?_)
 simp only [List.append_eq, List.cons_append, List.nil_append]
 iterate 8 (refine still_on (by rfl) (fun K hK => ?_); go_simp; refine hK _ ?_; clear hK K)
 refine still_join (σ := Value × Value × Value × Value × Value × Value × Value) 8 (fun s => [(15, s.1), (16, s.2.1), (17, s.2.2.1), (18, s.2.2.2.1), (19, s.2.2.2.2.1), (20, s.2.2.2.2.2.1), (21, s.2.2.2.2.2.2), (22, .bool y1)]) (fun Q' hQ' => ?_) (fun s => ?_)
 ·simp only [List.take_succ_cons, List.take_zero]
  simp only [Go.Proofs.YthphhogljniofaaDoorW.PrintLast.putAll, Act.put, pA_, pB_, pC_, Prod.forall] at hQ'
  clear hQ1
  rcases Bool.eq_false_or_eq_true x0 with hb | hb
  ·rw [hb, Bool.true_or] at hy1
   rw [← hy1] at hQ'
   simp only [hb] at hQ'
   clear hy1 HZ
   iterate 7 (refine still_off (by first | rfl | (show (some x0 == some false) = false; rw [hb]; rfl)) ?_; simp only [Act.put, pA_, pB_, pC_])
   (refine still_on (by rfl) (fun K hK => ?_); go_simp; refine hK _ ?_; clear hK K)
   exact wpStill_nil (hQ' _ _ _ _ _ _ _)
  ·rw [hb, Bool.false_or] at hy1
   rw [← hy1] at hQ'
   simp only [hb] at hQ'
   clear hy1 HZ
   refine still_on (by first | rfl | (show (some x0 == some false) = true; rw [hb]; rfl)) (fun K hK => ?_); go_simp; refine hK _ ?_; clear hK K
   refine still_on (by first | rfl | (show (some x0 == some false) = true; rw [hb]; rfl)) (fun K hK => ?_); go_simp; refine hK _ ?_; clear hK K
   refine still_on (by first | rfl | (show (some x0 == some false) = true; rw [hb]; rfl)) (fun K hK => ?_); go_simp; refine hK _ ?_; clear hK K
   refine still_on (by first | rfl | (show (some x0 == some false) = true; rw [hb]; rfl)) (fun K hK => ?_); go_simp; refine hK _ ?_; clear hK K
   refine still_on (by first | rfl | (show (some x0 == some false) = true; rw [hb]; rfl)) (fun K hK => ?_); go_simp; refine hK _ ?_; clear hK K
   refine still_on (by first | rfl | (show (some x0 == some false) = true; rw [hb]; rfl)) (fun K hK => ?_); go_simp; refine hK _ ?_; clear hK K
   refine still_on (by first | rfl | (show (some x0 == some false) = true; rw [hb]; rfl)) (fun K hK => ?_); go_simp; refine hK _ ?_; clear hK K
   (refine still_on (by rfl) (fun K hK => ?_); go_simp; refine hK _ ?_; clear hK K)
   exact wpStill_nil (hQ' _ _ _ _ _ _ _)
 obtain ⟨t15, t16, t17, t18, t19, t20, t21⟩ := s
 simp only [List.drop_succ_cons, List.drop_zero, Go.Proofs.YthphhogljniofaaDoorW.PrintLast.putAll, Act.put, pA_, pB_, pC_]
 iterate 1 (refine still_on (by rfl) (fun K hK => ?_); go_simp; refine hK _ ?_; clear hK K)
 refine still_join (σ := Value × Value × Value × Value × Value × Value × Value) 8 (fun s => [(24, s.1), (25, s.2.1), (26, s.2.2.1), (27, s.2.2.2.1), (28, s.2.2.2.2.1), (29, s.2.2.2.2.2.1), (30, s.2.2.2.2.2.2), (31, .bool y2)]) (fun Q' hQ' => ?_) (fun s => ?_)
 ·simp only [List.take_succ_cons, List.take_zero]
  simp only [Go.Proofs.YthphhogljniofaaDoorW.PrintLast.putAll, Act.put, pA_, pB_, pC_, Prod.forall] at hQ'
  clear hQ1
  rcases Bool.eq_false_or_eq_true y1 with hb | hb
  ·rw [hb, Bool.true_or] at hy2
   rw [← hy2] at hQ'
   simp only [hb] at hQ'
   clear hy2 HZ
   iterate 7 (refine still_off (by first | rfl | (show (some y1 == some false) = false; rw [hb]; rfl)) ?_; simp only [Act.put, pA_, pB_, pC_])
   (refine still_on (by rfl) (fun K hK => ?_); go_simp; refine hK _ ?_; clear hK K)
   exact wpStill_nil (hQ' _ _ _ _ _ _ _)
  ·rw [hb, Bool.false_or] at hy2
   rw [← hy2] at hQ'
   simp only [hb] at hQ'
   clear hy2 HZ
   refine still_on (by first | rfl | (show (some y1 == some false) = true; rw [hb]; rfl)) (fun K hK => ?_); go_simp; refine hK _ ?_; clear hK K
   refine still_on (by first | rfl | (show (some y1 == some false) = true; rw [hb]; rfl)) (fun K hK => ?_); go_simp; refine hK _ ?_; clear hK K
   refine still_on (by first | rfl | (show (some y1 == some false) = true; rw [hb]; rfl)) (fun K hK => ?_); go_simp; refine hK _ ?_; clear hK K
   refine still_on (by first | rfl | (show (some y1 == some false) = true; rw [hb]; rfl)) (fun K hK => ?_); go_simp; refine hK _ ?_; clear hK K
   refine still_on (by first | rfl | (show (some y1 == some false) = true; rw [hb]; rfl)) (fun K hK => ?_); go_simp; refine hK _ ?_; clear hK K
   refine still_on (by first | rfl | (show (some y1 == some false) = true; rw [hb]; rfl)) (fun K hK => ?_); go_simp; refine hK _ ?_; clear hK K
   refine still_on (by first | rfl | (show (some y1 == some false) = true; rw [hb]; rfl)) (fun K hK => ?_); go_simp; refine hK _ ?_; clear hK K
   (refine still_on (by rfl) (fun K hK => ?_); go_simp; refine hK _ ?_; clear hK K)
   exact wpStill_nil (hQ' _ _ _ _ _ _ _)
 obtain ⟨t24, t25, t26, t27, t28, t29, t30⟩ := s
 simp only [List.drop_succ_cons, List.drop_zero, Go.Proofs.YthphhogljniofaaDoorW.PrintLast.putAll, Act.put, pA_, pB_, pC_]
 iterate 1 (refine still_on (by rfl) (fun K hK => ?_); go_simp; refine hK _ ?_; clear hK K)
 refine still_join (σ := Value × Value × Value × Value × Value) 6 (fun s => [(33, s.1), (34, s.2.1), (35, s.2.2.1), (36, s.2.2.2.1), (37, s.2.2.2.2), (38, .bool y3)]) (fun Q' hQ' => ?_) (fun s => ?_)
 ·simp only [List.take_succ_cons, List.take_zero]
  simp only [Go.Proofs.YthphhogljniofaaDoorW.PrintLast.putAll, Act.put, pA_, pB_, pC_, Prod.forall] at hQ'
  clear hQ1
  rcases Bool.eq_false_or_eq_true y2 with hb | hb
  ·rw [hb, Bool.true_or] at hy3
   rw [← hy3] at hQ'
   simp only [hb] at hQ'
   clear hy3 HZ
   iterate 5 (refine still_off (by first | rfl | (show (some y2 == some false) = false; rw [hb]; rfl)) ?_; simp only [Act.put, pA_, pB_, pC_])
   (refine still_on (by rfl) (fun K hK => ?_); go_simp; refine hK _ ?_; clear hK K)
   exact wpStill_nil (hQ' _ _ _ _ _)
  ·rw [hb, Bool.false_or] at hy3
   rw [← hy3] at hQ'
   simp only [hb] at hQ'
   clear hy3 HZ
   refine still_on (by first | rfl | (show (some y2 == some false) = true; rw [hb]; rfl)) (fun K hK => ?_); go_simp; refine hK _ ?_; clear hK K
   refine still_on (by first | rfl | (show (some y2 == some false) = true; rw [hb]; rfl)) (fun K hK => ?_); go_simp; refine hK _ ?_; clear hK K
   refine still_on (by first | rfl | (show (some y2 == some false) = true; rw [hb]; rfl)) (fun K hK => ?_); go_simp; refine hK _ ?_; clear hK K
   refine still_on (by first | rfl | (show (some y2 == some false) = true; rw [hb]; rfl)) (fun K hK => ?_); go_simp; refine hK _ ?_; clear hK K
   refine still_on (by first | rfl | (show (some y2 == some false) = true; rw [hb]; rfl)) (fun K hK => ?_); go_simp; refine hK _ ?_; clear hK K
   (refine still_on (by rfl) (fun K hK => ?_); go_simp; refine hK _ ?_; clear hK K)
   exact wpStill_nil (hQ' _ _ _ _ _)
 obtain ⟨t33, t34, t35, t36, t37⟩ := s
 simp only [List.drop_succ_cons, List.drop_zero, Go.Proofs.YthphhogljniofaaDoorW.PrintLast.putAll, Act.put, pA_, pB_, pC_]
 iterate 1 (refine still_on (by rfl) (fun K hK => ?_); go_simp; refine hK _ ?_; clear hK K)
 refine still_join (σ := Value × Value × Value × Value × Value) 6 (fun s => [(40, s.1), (41, s.2.1), (42, s.2.2.1), (43, s.2.2.2.1), (44, s.2.2.2.2), (45, .bool y4)]) (fun Q' hQ' => ?_) (fun s => ?_)
 ·simp only [List.take_succ_cons, List.take_zero]
  simp only [Go.Proofs.YthphhogljniofaaDoorW.PrintLast.putAll, Act.put, pA_, pB_, pC_, Prod.forall] at hQ'
  clear hQ1
  rcases Bool.eq_false_or_eq_true y3 with hb | hb
  ·rw [hb, Bool.true_or] at hy4
   rw [← hy4] at hQ'
   simp only [hb] at hQ'
   clear hy4 HZ
   iterate 5 (refine still_off (by first | rfl | (show (some y3 == some false) = false; rw [hb]; rfl)) ?_; simp only [Act.put, pA_, pB_, pC_])
   (refine still_on (by rfl) (fun K hK => ?_); go_simp; refine hK _ ?_; clear hK K)
   exact wpStill_nil (hQ' _ _ _ _ _)
  ·rw [hb, Bool.false_or] at hy4
   rw [← hy4] at hQ'
   simp only [hb] at hQ'
   clear hy4 HZ
   refine still_on (by first | rfl | (show (some y3 == some false) = true; rw [hb]; rfl)) (fun K hK => ?_); go_simp; refine hK _ ?_; clear hK K
   refine still_on (by first | rfl | (show (some y3 == some false) = true; rw [hb]; rfl)) (fun K hK => ?_); go_simp; refine hK _ ?_; clear hK K
   refine still_on (by first | rfl | (show (some y3 == some false) = true; rw [hb]; rfl)) (fun K hK => ?_); go_simp; refine hK _ ?_; clear hK K
   refine still_on (by first | rfl | (show (some y3 == some false) = true; rw [hb]; rfl)) (fun K hK => ?_); go_simp; refine hK _ ?_; clear hK K
   refine still_on (by first | rfl | (show (some y3 == some false) = true; rw [hb]; rfl)) (fun K hK => ?_); go_simp; refine hK _ ?_; clear hK K
   (refine still_on (by rfl) (fun K hK => ?_); go_simp; refine hK _ ?_; clear hK K)
   exact wpStill_nil (hQ' _ _ _ _ _)
 obtain ⟨t40, t41, t42, t43, t44⟩ := s
 simp only [List.drop_succ_cons, List.drop_zero, Go.Proofs.YthphhogljniofaaDoorW.PrintLast.putAll, Act.put, pA_, pB_, pC_]
 iterate 1 (refine still_on (by rfl) (fun K hK => ?_); go_simp; refine hK _ ?_; clear hK K)
 refine still_join (σ := Value × Value × Value × Value × Value) 6 (fun s => [(47, s.1), (48, s.2.1), (49, s.2.2.1), (50, s.2.2.2.1), (51, s.2.2.2.2), (52, .bool y5)]) (fun Q' hQ' => ?_) (fun s => ?_)
 ·simp only [List.take_succ_cons, List.take_zero]
  simp only [Go.Proofs.YthphhogljniofaaDoorW.PrintLast.putAll, Act.put, pA_, pB_, pC_, Prod.forall] at hQ'
  clear hQ1
  rcases Bool.eq_false_or_eq_true y4 with hb | hb
  ·rw [hb, Bool.true_or] at hy5
   rw [← hy5] at hQ'
   simp only [hb] at hQ'
   clear hy5 HZ
   iterate 5 (refine still_off (by first | rfl | (show (some y4 == some false) = false; rw [hb]; rfl)) ?_; simp only [Act.put, pA_, pB_, pC_])
   (refine still_on (by rfl) (fun K hK => ?_); go_simp; refine hK _ ?_; clear hK K)
   exact wpStill_nil (hQ' _ _ _ _ _)
  ·rw [hb, Bool.false_or] at hy5
   rw [← hy5] at hQ'
   simp only [hb] at hQ'
   clear hy5 HZ
   refine still_on (by first | rfl | (show (some y4 == some false) = true; rw [hb]; rfl)) (fun K hK => ?_); go_simp; refine hK _ ?_; clear hK K
   refine still_on (by first | rfl | (show (some y4 == some false) = true; rw [hb]; rfl)) (fun K hK => ?_); go_simp; refine hK _ ?_; clear hK K
   refine still_on (by first | rfl | (show (some y4 == some false) = true; rw [hb]; rfl)) (fun K hK => ?_); go_simp; refine hK _ ?_; clear hK K
   refine still_on (by first | rfl | (show (some y4 == some false) = true; rw [hb]; rfl)) (fun K hK => ?_); go_simp; refine hK _ ?_; clear hK K
   refine still_on (by first | rfl | (show (some y4 == some false) = true; rw [hb]; rfl)) (fun K hK => ?_); go_simp; refine hK _ ?_; clear hK K
   (refine still_on (by rfl) (fun K hK => ?_); go_simp; refine hK _ ?_; clear hK K)
   exact wpStill_nil (hQ' _ _ _ _ _)
 obtain ⟨t47, t48, t49, t50, t51⟩ := s
 simp only [List.drop_succ_cons, List.drop_zero, Go.Proofs.YthphhogljniofaaDoorW.PrintLast.putAll, Act.put, pA_, pB_, pC_]
 iterate 1 (refine still_on (by rfl) (fun K hK => ?_); go_simp; refine hK _ ?_; clear hK K)
 refine still_join (σ := Value × Value × Value × Value × Value) 6 (fun s => [(54, s.1), (55, s.2.1), (56, s.2.2.1), (57, s.2.2.2.1), (58, s.2.2.2.2), (59, .bool y6)]) (fun Q' hQ' => ?_) (fun s => ?_)
 ·simp only [List.take_succ_cons, List.take_zero]
  simp only [Go.Proofs.YthphhogljniofaaDoorW.PrintLast.putAll, Act.put, pA_, pB_, pC_, Prod.forall] at hQ'
  clear hQ1
  rcases Bool.eq_false_or_eq_true y5 with hb | hb
  ·rw [hb, Bool.true_or] at hy6
   rw [← hy6] at hQ'
   simp only [hb] at hQ'
   clear hy6 HZ
   iterate 5 (refine still_off (by first | rfl | (show (some y5 == some false) = false; rw [hb]; rfl)) ?_; simp only [Act.put, pA_, pB_, pC_])
   (refine still_on (by rfl) (fun K hK => ?_); go_simp; refine hK _ ?_; clear hK K)
   exact wpStill_nil (hQ' _ _ _ _ _)
  ·rw [hb, Bool.false_or] at hy6
   rw [← hy6] at hQ'
   simp only [hb] at hQ'
   clear hy6 HZ
   refine still_on (by first | rfl | (show (some y5 == some false) = true; rw [hb]; rfl)) (fun K hK => ?_); go_simp; refine hK _ ?_; clear hK K
   refine still_on (by first | rfl | (show (some y5 == some false) = true; rw [hb]; rfl)) (fun K hK => ?_); go_simp; refine hK _ ?_; clear hK K
   refine still_on (by first | rfl | (show (some y5 == some false) = true; rw [hb]; rfl)) (fun K hK => ?_); go_simp; refine hK _ ?_; clear hK K
   refine still_on (by first | rfl | (show (some y5 == some false) = true; rw [hb]; rfl)) (fun K hK => ?_); go_simp; refine hK _ ?_; clear hK K
   refine still_on (by first | rfl | (show (some y5 == some false) = true; rw [hb]; rfl)) (fun K hK => ?_); go_simp; refine hK _ ?_; clear hK K
   (refine still_on (by rfl) (fun K hK => ?_); go_simp; refine hK _ ?_; clear hK K)
   exact wpStill_nil (hQ' _ _ _ _ _)
 obtain ⟨t54, t55, t56, t57, t58⟩ := s
 simp only [List.drop_succ_cons, List.drop_zero, Go.Proofs.YthphhogljniofaaDoorW.PrintLast.putAll, Act.put, pA_, pB_, pC_]
 iterate 1 (refine still_on (by rfl) (fun K hK => ?_); go_simp; refine hK _ ?_; clear hK K)
 refine still_join (σ := Value × Value × Value × Value × Value) 6 (fun s => [(61, s.1), (62, s.2.1), (63, s.2.2.1), (64, s.2.2.2.1), (65, s.2.2.2.2), (66, .bool y7)]) (fun Q' hQ' => ?_) (fun s => ?_)
 ·simp only [List.take_succ_cons, List.take_zero]
  simp only [Go.Proofs.YthphhogljniofaaDoorW.PrintLast.putAll, Act.put, pA_, pB_, pC_, Prod.forall] at hQ'
  clear hQ1
  rcases Bool.eq_false_or_eq_true y6 with hb | hb
  ·rw [hb, Bool.true_or] at hy7
   rw [← hy7] at hQ'
   simp only [hb] at hQ'
   clear hy7 HZ
   iterate 5 (refine still_off (by first | rfl | (show (some y6 == some false) = false; rw [hb]; rfl)) ?_; simp only [Act.put, pA_, pB_, pC_])
   (refine still_on (by rfl) (fun K hK => ?_); go_simp; refine hK _ ?_; clear hK K)
   exact wpStill_nil (hQ' _ _ _ _ _)
  ·rw [hb, Bool.false_or] at hy7
   rw [← hy7] at hQ'
   simp only [hb] at hQ'
   clear hy7 HZ
   refine still_on (by first | rfl | (show (some y6 == some false) = true; rw [hb]; rfl)) (fun K hK => ?_); go_simp; refine hK _ ?_; clear hK K
   refine still_on (by first | rfl | (show (some y6 == some false) = true; rw [hb]; rfl)) (fun K hK => ?_); go_simp; refine hK _ ?_; clear hK K
   refine still_on (by first | rfl | (show (some y6 == some false) = true; rw [hb]; rfl)) (fun K hK => ?_); go_simp; refine hK _ ?_; clear hK K
   refine still_on (by first | rfl | (show (some y6 == some false) = true; rw [hb]; rfl)) (fun K hK => ?_); go_simp; refine hK _ ?_; clear hK K
   refine still_on (by first | rfl | (show (some y6 == some false) = true; rw [hb]; rfl)) (fun K hK => ?_); go_simp; refine hK _ ?_; clear hK K
   (refine still_on (by rfl) (fun K hK => ?_); go_simp; refine hK _ ?_; clear hK K)
   exact wpStill_nil (hQ' _ _ _ _ _)
 obtain ⟨t61, t62, t63, t64, t65⟩ := s
 simp only [List.drop_succ_cons, List.drop_zero, Go.Proofs.YthphhogljniofaaDoorW.PrintLast.putAll, Act.put, pA_, pB_, pC_]
 iterate 1 (refine still_on (by rfl) (fun K hK => ?_); go_simp; refine hK _ ?_; clear hK K)
 refine still_join (σ := Value × Value × Value × Value × Value × Value × Value) 8 (fun s => [(68, s.1), (69, s.2.1), (70, s.2.2.1), (71, s.2.2.2.1), (72, s.2.2.2.2.1), (73, s.2.2.2.2.2.1), (74, s.2.2.2.2.2.2), (75, .bool y8)]) (fun Q' hQ' => ?_) (fun s => ?_)
 ·simp only [List.take_succ_cons, List.take_zero]
  simp only [Go.Proofs.YthphhogljniofaaDoorW.PrintLast.putAll, Act.put, pA_, pB_, pC_, Prod.forall] at hQ'
  clear hQ1
  rcases Bool.eq_false_or_eq_true y7 with hb | hb
  ·rw [hb, Bool.true_or] at hy8
   rw [← hy8] at hQ'
   simp only [hb] at hQ'
   clear hy8 HZ
   iterate 7 (refine still_off (by first | rfl | (show (some y7 == some false) = false; rw [hb]; rfl)) ?_; simp only [Act.put, pA_, pB_, pC_])
   (refine still_on (by rfl) (fun K hK => ?_); go_simp; refine hK _ ?_; clear hK K)
   exact wpStill_nil (hQ' _ _ _ _ _ _ _)
  ·rw [hb, Bool.false_or] at hy8
   rw [← hy8] at hQ'
   simp only [hb] at hQ'
   clear hy8 HZ
   refine still_on (by first | rfl | (show (some y7 == some false) = true; rw [hb]; rfl)) (fun K hK => ?_); go_simp; refine hK _ ?_; clear hK K
   refine still_on (by first | rfl | (show (some y7 == some false) = true; rw [hb]; rfl)) (fun K hK => ?_); go_simp; refine hK _ ?_; clear hK K
   refine still_on (by first | rfl | (show (some y7 == some false) = true; rw [hb]; rfl)) (fun K hK => ?_); go_simp; refine hK _ ?_; clear hK K
   refine still_on (by first | rfl | (show (some y7 == some false) = true; rw [hb]; rfl)) (fun K hK => ?_); go_simp; refine hK _ ?_; clear hK K
   refine still_on (by first | rfl | (show (some y7 == some false) = true; rw [hb]; rfl)) (fun K hK => ?_); go_simp; refine hK _ ?_; clear hK K
   refine still_on (by first | rfl | (show (some y7 == some false) = true; rw [hb]; rfl)) (fun K hK => ?_); go_simp; refine hK _ ?_; clear hK K
   refine still_on (by first | rfl | (show (some y7 == some false) = true; rw [hb]; rfl)) (fun K hK => ?_); go_simp; refine hK _ ?_; clear hK K
   (refine still_on (by rfl) (fun K hK => ?_); go_simp; refine hK _ ?_; clear hK K)
   exact wpStill_nil (hQ' _ _ _ _ _ _ _)
 obtain ⟨t68, t69, t70, t71, t72, t73, t74⟩ := s
 simp only [List.drop_succ_cons, List.drop_zero, Go.Proofs.YthphhogljniofaaDoorW.PrintLast.putAll, Act.put, pA_, pB_, pC_]
 iterate 1 (refine still_on (by rfl) (fun K hK => ?_); go_simp; refine hK _ ?_; clear hK K)
 refine still_join (σ := Value × Value × Value × Value × Value × Value × Value) 8 (fun s => [(77, s.1), (78, s.2.1), (79, s.2.2.1), (80, s.2.2.2.1), (81, s.2.2.2.2.1), (82, s.2.2.2.2.2.1), (83, s.2.2.2.2.2.2), (84, .bool y9)]) (fun Q' hQ' => ?_) (fun s => ?_)
 ·simp only [List.take_succ_cons, List.take_zero]
  simp only [Go.Proofs.YthphhogljniofaaDoorW.PrintLast.putAll, Act.put, pA_, pB_, pC_, Prod.forall] at hQ'
  clear hQ1
  rcases Bool.eq_false_or_eq_true y8 with hb | hb
  ·rw [hb, Bool.true_or] at hy9
   rw [← hy9] at hQ'
   simp only [hb] at hQ'
   clear hy9 HZ
   iterate 7 (refine still_off (by first | rfl | (show (some y8 == some false) = false; rw [hb]; rfl)) ?_; simp only [Act.put, pA_, pB_, pC_])
   (refine still_on (by rfl) (fun K hK => ?_); go_simp; refine hK _ ?_; clear hK K)
   exact wpStill_nil (hQ' _ _ _ _ _ _ _)
  ·rw [hb, Bool.false_or] at hy9
   rw [← hy9] at hQ'
   simp only [hb] at hQ'
   clear hy9 HZ
   refine still_on (by first | rfl | (show (some y8 == some false) = true; rw [hb]; rfl)) (fun K hK => ?_); go_simp; refine hK _ ?_; clear hK K
   refine still_on (by first | rfl | (show (some y8 == some false) = true; rw [hb]; rfl)) (fun K hK => ?_); go_simp; refine hK _ ?_; clear hK K
   refine still_on (by first | rfl | (show (some y8 == some false) = true; rw [hb]; rfl)) (fun K hK => ?_); go_simp; refine hK _ ?_; clear hK K
   refine still_on (by first | rfl | (show (some y8 == some false) = true; rw [hb]; rfl)) (fun K hK => ?_); go_simp; refine hK _ ?_; clear hK K
   refine still_on (by first | rfl | (show (some y8 == some false) = true; rw [hb]; rfl)) (fun K hK => ?_); go_simp; refine hK _ ?_; clear hK K
   refine still_on (by first | rfl | (show (some y8 == some false) = true; rw [hb]; rfl)) (fun K hK => ?_); go_simp; refine hK _ ?_; clear hK K
   refine still_on (by first | rfl | (show (some y8 == some false) = true; rw [hb]; rfl)) (fun K hK => ?_); go_simp; refine hK _ ?_; clear hK K
   (refine still_on (by rfl) (fun K hK => ?_); go_simp; refine hK _ ?_; clear hK K)
   exact wpStill_nil (hQ' _ _ _ _ _ _ _)
 obtain ⟨t77, t78, t79, t80, t81, t82, t83⟩ := s
 simp only [List.drop_succ_cons, List.drop_zero, Go.Proofs.YthphhogljniofaaDoorW.PrintLast.putAll, Act.put, pA_, pB_, pC_]
 refine wpStill_nil (hQ1 _ ?_)
 clear hQ1 Q1 p0 q0 p1 q1 p2 q2 p3 q3 p4 q4 p5 q5 p6 q6 p7 q7 p8 q8 p9 q9 p10 q10 p11 q11
 rcases Bool.eq_false_or_eq_true y9 with hz | hz
 ·have hne : ¬ eqM a b := by
   intro he
   have h := HZ.out.2 hz
   obtain ⟨⟨⟨h1, h2, h3, h4⟩, h5, h6, h7, h8, h9⟩, h10, h11⟩ := he
   simp only [← HX0.out, ← HX1.out, ← HX2.out, ← HX3.out, ← HX4.out, ← HX5.out, ← HX6.out, ← HX7.out, ← HX8.out, ← HX9.out, h1, h2, h3, h4, h5, h6, h7, h8, h9, h10, h11, bne_self_eq_false, beq_self_eq_true, Bool.not_true, Bool.or_false, Bool.false_eq_true, or_self] at h
  have HNE := Lib.hid hne
  clear hne HZ HX0 HX1 HX2 HX3 HX4 HX5 HX6 HX7 HX8 HX9 hx0 hx1 hx2 hx3 hx4 hx5 hx6 hx7 hx8 hx9 hy1 hy2 hy3 hy4 hy5 hy6 hy7 hy8 hy9
  subst hz
  go_wp2
  go_ret
  exact ⟨by rw [eqC_false (fun h => HNE.out (diffR_nil.1 h))]; rfl, HT.out.2.2⟩
 ·have hno : ¬ (x0 = true ∨ x1 = true ∨ x2 = true ∨ x3 = true ∨ x4 = true ∨ x5 = true ∨ x6 = true ∨ x7 = true ∨ x8 = true ∨ x9 = true) := fun h => absurd (HZ.out.1 h) (by rw [hz]; decide)
  simp only [not_or, Bool.not_eq_true, ← HX0.out, ← HX1.out, ← HX2.out, ← HX3.out, ← HX4.out, ← HX5.out, ← HX6.out, ← HX7.out, ← HX8.out, ← HX9.out] at hno
  obtain ⟨e0, e1, e2, e3, e4, e5, e6, e7, e8, e9⟩ := hno
  have HH := Lib.hid (show ((a.big = b.big ∧ a.wide = b.wide ∧ a.abi = b.abi ∧ a.ver = b.ver) ∧ (a.ty = b.ty ∧ a.mc = b.mc ∧ a.en = b.en ∧ a.fg = b.fg ∧ a.nm = b.nm)) ∧ a.L.length = b.L.length ∧ a.D.length = b.D.length from
   ⟨⟨⟨(by simp at e0; exact e0.1), (by simp at e0; exact e0.2), bne_eq_false_iff_eq.1 e1, bne_eq_false_iff_eq.1 e2⟩, bne_eq_false_iff_eq.1 e3, bne_eq_false_iff_eq.1 e4, bne_eq_false_iff_eq.1 e5, bne_eq_false_iff_eq.1 e6, bne_eq_false_iff_eq.1 e7⟩, (by have := bne_eq_false_iff_eq.1 e8; omega), (by have := bne_eq_false_iff_eq.1 e9; omega)⟩)
  clear e0 e1 e2 e3 e4 e5 e6 e7 e8 e9 HZ HX0 HX1 HX2 HX3 HX4 HX5 HX6 HX7 HX8 HX9 hx0 hx1 hx2 hx3 hx4 hx5 hx6 hx7 hx8 hx9 hy1 hy2 hy3 hy4 hy5 hy6 hy7 hy8 hy9
  subst hz
  go_wp2
  go_loopw [5] (fun i wr => ∃ k : Nat, k ≤ a.L.length ∧ i = .int .i64 k ∧ Hid (DSt w wr #[.bool a.big, .bool a.wide, .int .u8 a.abi, .int .u8 a.ver, .string a.pad, .int .u64 a.ty, .int .u64 a.mc, .int .u64 a.en, .int .u64 a.fg, .int .u64 a.nm, .slice A9 a.L.length c9, .slice A10 a.D.length c10] #[.bool b.big, .bool b.wide, .int .u8 b.abi, .int .u8 b.ver, .string b.pad, .int .u64 b.ty, .int .u64 b.mc, .int .u64 b.en, .int .u64 b.fg, .int .u64 b.nm, .slice B9 b.L.length d9, .slice B10 b.D.length d10] ∧ a.L.take k = b.L.take k)) (fun i _ => a.L.length - (intOf i).toNat)
  case atStart => exact ⟨0, Nat.zero_le _, rfl, Lib.hid ⟨HT.out, rfl⟩⟩
  case round =>
   obtain ⟨k, hk1, rfl, HR⟩ := hrel
   clear HT
   have hll : b.L.length = a.L.length := by have := HH.out; omega
   have r10 := blk_cell HR.out.1.1 10
   simp only [gA_, gB_, gC_] at r10
   by_cases hlt : k < a.L.length
   ·obtain ⟨ad, A0, a0, A1, a1, A2, a2, hA, o0, o1, o2, o3, o4, o5, o6, o7, o8, o9, o10, o11, o12, l0, g0, l1, g1, l2, g2⟩ := at_T58 HA9.out (k : Int) (by omega) (by omega)
    obtain ⟨bd, B0, b0, B1, b1, B2, b2, hB, n0, n1, n2, n3, n4, n5, n6, n7, n8, n9, n10, n11, n12, m0, j0, m1, j1, m2, j2⟩ := at_T58 HB9.out (k : Int) (by omega) (by omega)
    rw [Int.toNat_natCast] at o0 o1 o2 o3 o4 o5 o6 o7 o8 o9 o10 o11 o12 n0 n1 n2 n3 n4 n5 n6 n7 n8 n9 n10 n11 n12
    obtain ⟨x, hxe⟩ : ∃ x, x = rd_T58 a.L (k : Int) := ⟨_, rfl⟩
    obtain ⟨y, hye⟩ : ∃ y, y = rd_T58 b.L (k : Int) := ⟨_, rfl⟩
    have hbl : k < b.L.length := by omega
    have HX := Lib.hid (show a.L[k] = x by rw [hxe]; unfold rd_T58; rw [Int.toNat_natCast]; simp [List.getD, hlt])
    have HY := Lib.hid (show b.L[k] = y by rw [hye]; unfold rd_T58; rw [Int.toNat_natCast]; simp [List.getD, hbl])
    rw [← hxe] at o0 o1 o2 o3 o4 o5 o6 o7 o8 o9 o10 o11 o12 l0 g0 l1 g1 l2 g2
    rw [← hye] at n0 n1 n2 n3 n4 n5 n6 n7 n8 n9 n10 n11 n12 m0 j0 m1 j1 m2 j2
    clear hxe hye
    subst hA
    subst hB
    have HG := Lib.hid (fun W (hb : Below w.heap.size w W) => equal_any x y A0 A1 A2 B0 B1 B2 a0 a1 a2 b0 b1 b2 W (Kd.C_below g0 hb) (Kd.C_below g1 hb) (Kd.C_below g2 hb) (Kd.C_below j0 hb) (Kd.C_below j1 hb) (Kd.C_below j2 hb))
    clear l0 g0 l1 g1 l2 g2 m0 j0 m1 j1 m2 j2
    go_upto_region 6 with (fail)
    clear r10
    obtain ⟨wd, hwd⟩ : ∃ wd, wd = wr.drew := ⟨_, rfl⟩
    have HTd := Lib.hid (show DSt w wd _ _ from by rw [hwd]; exact HR.out.1.below (below_drew1 (Below.refl _ _)))
    have HEQ := Lib.hid HR.out.2
    clear HR
    have p0 := (HTd.out.2.2.cell (World.block_lt_of_cell? w _ o0)).trans o0
    have q0 := (HTd.out.2.2.cell (World.block_lt_of_cell? w _ n0)).trans n0
    have p1 := (HTd.out.2.2.cell (World.block_lt_of_cell? w _ o1)).trans o1
    have q1 := (HTd.out.2.2.cell (World.block_lt_of_cell? w _ n1)).trans n1
    have p2 := (HTd.out.2.2.cell (World.block_lt_of_cell? w _ o2)).trans o2
    have q2 := (HTd.out.2.2.cell (World.block_lt_of_cell? w _ n2)).trans n2
    have p3 := (HTd.out.2.2.cell (World.block_lt_of_cell? w _ o3)).trans o3
    have q3 := (HTd.out.2.2.cell (World.block_lt_of_cell? w _ n3)).trans n3
    have p4 := (HTd.out.2.2.cell (World.block_lt_of_cell? w _ o4)).trans o4
    have q4 := (HTd.out.2.2.cell (World.block_lt_of_cell? w _ n4)).trans n4
    have p5 := (HTd.out.2.2.cell (World.block_lt_of_cell? w _ o5)).trans o5
    have q5 := (HTd.out.2.2.cell (World.block_lt_of_cell? w _ n5)).trans n5
    have p6 := (HTd.out.2.2.cell (World.block_lt_of_cell? w _ o6)).trans o6
    have q6 := (HTd.out.2.2.cell (World.block_lt_of_cell? w _ n6)).trans n6
    have p7 := (HTd.out.2.2.cell (World.block_lt_of_cell? w _ o7)).trans o7
    have q7 := (HTd.out.2.2.cell (World.block_lt_of_cell? w _ n7)).trans n7
    have p8 := (HTd.out.2.2.cell (World.block_lt_of_cell? w _ o8)).trans o8
    have q8 := (HTd.out.2.2.cell (World.block_lt_of_cell? w _ n8)).trans n8
    have p9 := (HTd.out.2.2.cell (World.block_lt_of_cell? w _ o9)).trans o9
    have q9 := (HTd.out.2.2.cell (World.block_lt_of_cell? w _ n9)).trans n9
    have p10 := (HTd.out.2.2.cell (World.block_lt_of_cell? w _ o10)).trans o10
    have q10 := (HTd.out.2.2.cell (World.block_lt_of_cell? w _ n10)).trans n10
    have p11 := (HTd.out.2.2.cell (World.block_lt_of_cell? w _ o11)).trans o11
    have q11 := (HTd.out.2.2.cell (World.block_lt_of_cell? w _ n11)).trans n11
    have p12 := (HTd.out.2.2.cell (World.block_lt_of_cell? w _ o12)).trans o12
    have q12 := (HTd.out.2.2.cell (World.block_lt_of_cell? w _ n12)).trans n12
    rw [hwd] at HTd p0 q0 p1 q1 p2 q2 p3 q3 p4 q4 p5 q5 p6 q6 p7 q7 p8 q8 p9 q9 p10 q10 p11 q11 p12 q12
    refine start_ (n := 12) (S := fun w' => w'.cell? ⟨w.heap.size, 10, none⟩ = some (.slice (some ad) a.L.length c9) ∧ w'.cell? ⟨w.heap.size + 1, 10, none⟩ = some (.slice (some bd) b.L.length d9) ∧ w'.cell? (ad.add (k * 13)) = some (.string x.f0) ∧ w'.cell? ⟨(ad.add (k * 13)).block, (ad.add (k * 13)).off + 1, none⟩ = some (.int .u64 x.f1) ∧ w'.cell? ⟨(ad.add (k * 13)).block, (ad.add (k * 13)).off + 2, none⟩ = some (.int .u64 x.f2) ∧ w'.cell? ⟨(ad.add (k * 13)).block, (ad.add (k * 13)).off + 3, none⟩ = some (.int .u64 x.f3) ∧ w'.cell? ⟨(ad.add (k * 13)).block, (ad.add (k * 13)).off + 4, none⟩ = some (.int .u64 x.f4) ∧ w'.cell? ⟨(ad.add (k * 13)).block, (ad.add (k * 13)).off + 5, none⟩ = some (.int .u64 x.f5) ∧ w'.cell? ⟨(ad.add (k * 13)).block, (ad.add (k * 13)).off + 6, none⟩ = some (.int .u64 x.f6) ∧ w'.cell? ⟨(ad.add (k * 13)).block, (ad.add (k * 13)).off + 7, none⟩ = some (.int .u64 x.f7) ∧ w'.cell? ⟨(ad.add (k * 13)).block, (ad.add (k * 13)).off + 8, none⟩ = some (.int .u64 x.f8) ∧ w'.cell? ⟨(ad.add (k * 13)).block, (ad.add (k * 13)).off + 9, none⟩ = some (.string x.f9) ∧ w'.cell? ⟨(ad.add (k * 13)).block, (ad.add (k * 13)).off + 10, none⟩ = some (.slice A0 x.f10.length a0) ∧ w'.cell? ⟨(ad.add (k * 13)).block, (ad.add (k * 13)).off + 11, none⟩ = some (.slice A1 x.f11.length a1) ∧ w'.cell? ⟨(ad.add (k * 13)).block, (ad.add (k * 13)).off + 12, none⟩ = some (.slice A2 x.f12.length a2) ∧ w'.cell? (bd.add (k * 13)) = some (.string y.f0) ∧ w'.cell? ⟨(bd.add (k * 13)).block, (bd.add (k * 13)).off + 1, none⟩ = some (.int .u64 y.f1) ∧ w'.cell? ⟨(bd.add (k * 13)).block, (bd.add (k * 13)).off + 2, none⟩ = some (.int .u64 y.f2) ∧ w'.cell? ⟨(bd.add (k * 13)).block, (bd.add (k * 13)).off + 3, none⟩ = some (.int .u64 y.f3) ∧ w'.cell? ⟨(bd.add (k * 13)).block, (bd.add (k * 13)).off + 4, none⟩ = some (.int .u64 y.f4) ∧ w'.cell? ⟨(bd.add (k * 13)).block, (bd.add (k * 13)).off + 5, none⟩ = some (.int .u64 y.f5) ∧ w'.cell? ⟨(bd.add (k * 13)).block, (bd.add (k * 13)).off + 6, none⟩ = some (.int .u64 y.f6) ∧ w'.cell? ⟨(bd.add (k * 13)).block, (bd.add (k * 13)).off + 7, none⟩ = some (.int .u64 y.f7) ∧ w'.cell? ⟨(bd.add (k * 13)).block, (bd.add (k * 13)).off + 8, none⟩ = some (.int .u64 y.f8) ∧ w'.cell? ⟨(bd.add (k * 13)).block, (bd.add (k * 13)).off + 9, none⟩ = some (.string y.f9) ∧ w'.cell? ⟨(bd.add (k * 13)).block, (bd.add (k * 13)).off + 10, none⟩ = some (.slice B0 y.f10.length b0) ∧ w'.cell? ⟨(bd.add (k * 13)).block, (bd.add (k * 13)).off + 11, none⟩ = some (.slice B1 y.f11.length b1) ∧ w'.cell? ⟨(bd.add (k * 13)).block, (bd.add (k * 13)).off + 12, none⟩ = some (.slice B2 y.f12.length b2)) (ds := []) #[false, false, false, false, false, false, false, false, false, false, false, false] (by kernel_rfl) (by rfl) (by rfl) ⟨blk_cell HTd.out.1 10, blk_cell HTd.out.2.1 10, p0, p1, p2, p3, p4, p5, p6, p7, p8, p9, p10, p11, p12, q0, q1, q2, q3, q4, q5, q6, q7, q8, q9, q10, q11, q12⟩ (fun hHeld => ?_)
    rw [← hwd] at HTd p0 q0 p1 q1 p2 q2 p3 q3 p4 q4 p5 q5 p6 q6 p7 q7 p8 q8 p9 q9 p10 q10 p11 q11 p12 q12 hHeld ⊢
    clear hwd
    refine pure_ (i := 0) (N := some 92) (v := ?_) (a' := ?_) #[true, false, false, false, false, false, false, false, false, false, false, false] rfl rfl (by kernel_rfl) (fun _ _ _ h => h) (Or.inl ⟨by rfl, ?_⟩) ?_ ?_
    rotate_left
    ·intro w'
     go_simp
     with_reducible rfl
    rotate_left
    ·simp only [Act.put, pA_, pB_, pC_]
     rfl
    refine pure_ (i := 2) (N := some 94) (v := ?_) (a' := ?_) #[true, false, true, false, false, false, false, false, false, false, false, false] rfl rfl (by kernel_rfl) (fun _ _ _ h => h) (Or.inl ⟨by rfl, ?_⟩) ?_ ?_
    rotate_left
    ·intro w'
     go_simp
     with_reducible rfl
    rotate_left
    ·simp only [Act.put, pA_, pB_, pC_]
     rfl
    refine pure_ (i := 5) (N := some 97) (v := ?_) (a' := ?_) #[true, false, true, false, false, true, false, false, false, false, false, false] rfl rfl (by kernel_rfl) (fun _ _ _ h => h) (Or.inl ⟨by rfl, ?_⟩) ?_ ?_
    rotate_left
    ·intro w'
     go_simp
     with_reducible rfl
    rotate_left
    ·simp only [Act.put, pA_, pB_, pC_]
     rfl
    refine pure_ (i := 7) (N := some 99) (v := ?_) (a' := ?_) #[true, false, true, false, false, true, false, true, false, false, false, false] rfl rfl (by kernel_rfl) (fun _ _ _ h => h) (Or.inl ⟨by rfl, ?_⟩) ?_ ?_
    rotate_left
    ·intro w'
     go_simp
     with_reducible rfl
    rotate_left
    ·simp only [Act.put, pA_, pB_, pC_]
     rfl
    refine take_ (i := 1) (N := some 93) (v := ?_) (a' := ?_) #[true, true, true, false, false, true, false, true, false, false, false, false] rfl rfl (by kernel_rfl) (fun _ _ _ h => h) (Or.inl ⟨by rfl, ?_⟩) hHeld ?_ ?_
    rotate_left
    ·rintro w' ⟨s0, s1, s2, s3, s4, s5, s6, s7, s8, s9, s10, s11, s12, s13, s14, s15, s16, s17, s18, s19, s20, s21, s22, s23, s24, s25, s26, s27⟩
     go_simp
     with_reducible rfl
    rotate_left
    ·simp only [Act.put, pA_, pB_, pC_]
     rfl
    refine take_ (i := 6) (N := some 98) (v := ?_) (a' := ?_) #[true, true, true, false, false, true, true, true, false, false, false, false] rfl rfl (by kernel_rfl) (fun _ _ _ h => h) (Or.inl ⟨by rfl, ?_⟩) hHeld ?_ ?_
    rotate_left
    ·rintro w' ⟨s0, s1, s2, s3, s4, s5, s6, s7, s8, s9, s10, s11, s12, s13, s14, s15, s16, s17, s18, s19, s20, s21, s22, s23, s24, s25, s26, s27⟩
     go_simp
     with_reducible rfl
    rotate_left
    ·simp only [Act.put, pA_, pB_, pC_]
     rfl
    refine pure_ (i := 3) (N := some 95) (v := ?_) (a' := ?_) #[true, true, true, true, false, true, true, true, false, false, false, false] rfl rfl (by kernel_rfl) (fun _ _ _ h => h) (Or.inl ⟨by rfl, ?_⟩) ?_ ?_
    rotate_left
    ·intro w'
     go_simp
     with_reducible rfl
    rotate_left
    ·simp only [Act.put, pA_, pB_, pC_]
     rfl
    refine pure_ (i := 8) (N := some 100) (v := ?_) (a' := ?_) #[true, true, true, true, false, true, true, true, true, false, false, false] rfl rfl (by kernel_rfl) (fun _ _ _ h => h) (Or.inl ⟨by rfl, ?_⟩) ?_ ?_
    rotate_left
    ·intro w'
     go_simp
     with_reducible rfl
    rotate_left
    ·simp only [Act.put, pA_, pB_, pC_]
     rfl
    refine take_ (i := 4) (N := some 96) (v := ?_) (a' := ?_) #[true, true, true, true, true, true, true, true, true, false, false, false] rfl rfl (by kernel_rfl) (fun _ _ _ h => h) (Or.inl ⟨by rfl, ?_⟩) hHeld ?_ ?_
    rotate_left
    ·rintro w' ⟨s0, s1, s2, s3, s4, s5, s6, s7, s8, s9, s10, s11, s12, s13, s14, s15, s16, s17, s18, s19, s20, s21, s22, s23, s24, s25, s26, s27⟩
     go_simp
     with_reducible rfl
    rotate_left
    ·simp only [Act.put, pA_, pB_, pC_]
     rfl
    refine take_ (i := 9) (N := some 101) (v := ?_) (a' := ?_) #[true, true, true, true, true, true, true, true, true, true, false, false] rfl rfl (by kernel_rfl) (fun _ _ _ h => h) (Or.inl ⟨by rfl, ?_⟩) hHeld ?_ ?_
    rotate_left
    ·rintro w' ⟨s0, s1, s2, s3, s4, s5, s6, s7, s8, s9, s10, s11, s12, s13, s14, s15, s16, s17, s18, s19, s20, s21, s22, s23, s24, s25, s26, s27⟩
     go_simp
     with_reducible rfl
    rotate_left
    ·simp only [Act.put, pA_, pB_, pC_]
     rfl
    refine one_ (i := 10) (N := some 102) #[true, true, true, true, true, true, true, true, true, true, true, false] rfl rfl (by kernel_rfl) (by decide) (fun K hK => ?_)
    refine goes_ Tryd.func17 (by kernel_rfl) rfl #[.agg #[.string x.f0, .int .u64 x.f1, .int .u64 x.f2, .int .u64 x.f3, .int .u64 x.f4, .int .u64 x.f5, .int .u64 x.f6, .int .u64 x.f7, .int .u64 x.f8, .string x.f9, .slice A0 x.f10.length a0, .slice A1 x.f11.length a1, .slice A2 x.f12.length a2], .agg #[.string y.f0, .int .u64 y.f1, .int .u64 y.f2, .int .u64 y.f3, .int .u64 y.f4, .int .u64 y.f5, .int .u64 y.f6, .int .u64 y.f7, .int .u64 y.f8, .string y.f9, .slice B0 y.f10.length b0, .slice B1 y.f11.length b1, .slice B2 y.f12.length b2]] (by rfl) rfl rfl (by first | rfl | (simp only [List.map_toArray, List.map_cons, List.map_nil]; rfl)) ?_
    refine (HG.out wd HTd.out.2.2).mono ?_
    rintro e w1 ⟨rfl, hb1⟩
    refine ⟨_, rfl, ?_⟩
    have HT1 := Lib.hid (HTd.out.below hb1)
    refine hK.out _ _ ⟨blk_cell HT1.out.1 10, blk_cell HT1.out.2.1 10, (hb1.cell (World.block_lt_of_cell? wd _ p0)).trans p0, (hb1.cell (World.block_lt_of_cell? wd _ p1)).trans p1, (hb1.cell (World.block_lt_of_cell? wd _ p2)).trans p2, (hb1.cell (World.block_lt_of_cell? wd _ p3)).trans p3, (hb1.cell (World.block_lt_of_cell? wd _ p4)).trans p4, (hb1.cell (World.block_lt_of_cell? wd _ p5)).trans p5, (hb1.cell (World.block_lt_of_cell? wd _ p6)).trans p6, (hb1.cell (World.block_lt_of_cell? wd _ p7)).trans p7, (hb1.cell (World.block_lt_of_cell? wd _ p8)).trans p8, (hb1.cell (World.block_lt_of_cell? wd _ p9)).trans p9, (hb1.cell (World.block_lt_of_cell? wd _ p10)).trans p10, (hb1.cell (World.block_lt_of_cell? wd _ p11)).trans p11, (hb1.cell (World.block_lt_of_cell? wd _ p12)).trans p12, (hb1.cell (World.block_lt_of_cell? wd _ q0)).trans q0, (hb1.cell (World.block_lt_of_cell? wd _ q1)).trans q1, (hb1.cell (World.block_lt_of_cell? wd _ q2)).trans q2, (hb1.cell (World.block_lt_of_cell? wd _ q3)).trans q3, (hb1.cell (World.block_lt_of_cell? wd _ q4)).trans q4, (hb1.cell (World.block_lt_of_cell? wd _ q5)).trans q5, (hb1.cell (World.block_lt_of_cell? wd _ q6)).trans q6, (hb1.cell (World.block_lt_of_cell? wd _ q7)).trans q7, (hb1.cell (World.block_lt_of_cell? wd _ q8)).trans q8, (hb1.cell (World.block_lt_of_cell? wd _ q9)).trans q9, (hb1.cell (World.block_lt_of_cell? wd _ q10)).trans q10, (hb1.cell (World.block_lt_of_cell? wd _ q11)).trans q11, (hb1.cell (World.block_lt_of_cell? wd _ q12)).trans q12⟩ (fun hHeld => ?_)
    clear hK K
    obtain ⟨nb, hnb⟩ : ∃ nb : Bool, eqC x y = nb := ⟨_, rfl⟩
    rw [hnb]
    refine norm_ (a' := ?_) ?_ ?_
    rotate_left
    ·show Act.put _ (some 102) _ = _
     simp only [Act.put, pA_, pB_, pC_]
     rfl
    refine pure_ (i := 11) (N := some 103) (v := ?_) (a' := ?_) #[true, true, true, true, true, true, true, true, true, true, true, true] rfl rfl (by kernel_rfl) (fun _ _ _ h => h) (Or.inl ⟨by rfl, ?_⟩) ?_ ?_
    rotate_left
    ·intro w'
     go_simp
     with_reducible rfl
    rotate_left
    ·simp only [Act.put, pA_, pB_, pC_]
     rfl
    refine done_ (by kernel_rfl) ?_
    clear hb1 p0 q0 o0 n0 p1 q1 o1 n1 p2 q2 o2 n2 p3 q3 o3 n3 p4 q4 o4 n4 p5 q5 o5 n5 p6 q6 o6 n6 p7 q7 o7 n7 p8 q8 o8 n8 p9 q9 o9 n9 p10 q10 o10 n10 p11 q11 o11 n11 p12 q12 o12 n12 hHeld
    by_cases hxy : x = y
    ·have hnf : nb = true := by rw [← hnb]; exact eqC_true hxy
     subst hnf
     have HTd := HT1
     have HXY := Lib.hid hxy
     clear hxy
     go_wp2
     clear hnb
     go_roundw
     case rel => exact ⟨k + 1, by omega, by go_num, Lib.hid ⟨HTd.out, by rw [List.take_succ_eq_append_getElem hlt, List.take_succ_eq_append_getElem hbl, HX.out, HY.out, HXY.out, HEQ.out]⟩⟩
     case measure => simp [intOf]; omega
    ·have hnf : nb = false := by rw [← hnb]; exact eqC_false hxy
     subst hnf
     have HTd := HT1
     have HXY := Lib.hid hxy
     clear hxy
     go_wp2
     go_ret
     refine ⟨?_, HTd.out.2.2⟩
     rw [eqC_false (fun h => HXY.out (by
      have h2 := (diffR_nil.1 h).2.1
      have h3 : a.L[k] = b.L[k] := by simp only [h2]
      exact HX.out.symm.trans (h3.trans HY.out)))]
     rfl
   ·have HL10 := Lib.hid (show a.L = b.L from by
     have h := HR.out.2
     rwa [List.take_of_length_le (by omega), List.take_of_length_le (by omega)] at h)
    have HT10 := Lib.hid HR.out.1
    clear HR hll
    go_wp2
    clear r10 hlt hk1
    go_loopw [6] (fun i wr => ∃ k : Nat, k ≤ a.D.length ∧ i = .int .i64 k ∧ Hid (DSt w wr #[.bool a.big, .bool a.wide, .int .u8 a.abi, .int .u8 a.ver, .string a.pad, .int .u64 a.ty, .int .u64 a.mc, .int .u64 a.en, .int .u64 a.fg, .int .u64 a.nm, .slice A9 a.L.length c9, .slice A10 a.D.length c10] #[.bool b.big, .bool b.wide, .int .u8 b.abi, .int .u8 b.ver, .string b.pad, .int .u64 b.ty, .int .u64 b.mc, .int .u64 b.en, .int .u64 b.fg, .int .u64 b.nm, .slice B9 b.L.length d9, .slice B10 b.D.length d10] ∧ a.D.take k = b.D.take k)) (fun i _ => a.D.length - (intOf i).toNat)
    case atStart => exact ⟨0, Nat.zero_le _, rfl, Lib.hid ⟨HT10.out, rfl⟩⟩
    case round =>
     obtain ⟨k, hk1, rfl, HR⟩ := hrel
     clear HT10
     have hll : b.D.length = a.D.length := by have := HH.out; omega
     have r11 := blk_cell HR.out.1.1 11
     simp only [gA_, gB_, gC_] at r11
     by_cases hlt : k < a.D.length
     ·obtain ⟨ad, hA, o0, o1, o2, o3, o4, o5, o6⟩ := at_T65 HA10.out (k : Int) (by omega) (by omega)
      obtain ⟨bd, hB, n0, n1, n2, n3, n4, n5, n6⟩ := at_T65 HB10.out (k : Int) (by omega) (by omega)
      rw [Int.toNat_natCast] at o0 o1 o2 o3 o4 o5 o6 n0 n1 n2 n3 n4 n5 n6
      obtain ⟨x, hxe⟩ : ∃ x, x = rd_T65 a.D (k : Int) := ⟨_, rfl⟩
      obtain ⟨y, hye⟩ : ∃ y, y = rd_T65 b.D (k : Int) := ⟨_, rfl⟩
      have hbl : k < b.D.length := by omega
      have HX := Lib.hid (show a.D[k] = x by rw [hxe]; unfold rd_T65; rw [Int.toNat_natCast]; simp [List.getD, hlt])
      have HY := Lib.hid (show b.D[k] = y by rw [hye]; unfold rd_T65; rw [Int.toNat_natCast]; simp [List.getD, hbl])
      rw [← hxe] at o0 o1 o2 o3 o4 o5 o6
      rw [← hye] at n0 n1 n2 n3 n4 n5 n6
      clear hxe hye
      subst hA
      subst hB
      go_upto_region 11 with (fail)
      clear r11
      obtain ⟨wd, hwd⟩ : ∃ wd, wd = wr.drew := ⟨_, rfl⟩
      have HTd := Lib.hid (show DSt w wd _ _ from by rw [hwd]; exact HR.out.1.below (below_drew1 (Below.refl _ _)))
      have HEQ := Lib.hid HR.out.2
      clear HR
      have p0 := (HTd.out.2.2.cell (World.block_lt_of_cell? w _ o0)).trans o0
      have q0 := (HTd.out.2.2.cell (World.block_lt_of_cell? w _ n0)).trans n0
      have p1 := (HTd.out.2.2.cell (World.block_lt_of_cell? w _ o1)).trans o1
      have q1 := (HTd.out.2.2.cell (World.block_lt_of_cell? w _ n1)).trans n1
      have p2 := (HTd.out.2.2.cell (World.block_lt_of_cell? w _ o2)).trans o2
      have q2 := (HTd.out.2.2.cell (World.block_lt_of_cell? w _ n2)).trans n2
      have p3 := (HTd.out.2.2.cell (World.block_lt_of_cell? w _ o3)).trans o3
      have q3 := (HTd.out.2.2.cell (World.block_lt_of_cell? w _ n3)).trans n3
      have p4 := (HTd.out.2.2.cell (World.block_lt_of_cell? w _ o4)).trans o4
      have q4 := (HTd.out.2.2.cell (World.block_lt_of_cell? w _ n4)).trans n4
      have p5 := (HTd.out.2.2.cell (World.block_lt_of_cell? w _ o5)).trans o5
      have q5 := (HTd.out.2.2.cell (World.block_lt_of_cell? w _ n5)).trans n5
      have p6 := (HTd.out.2.2.cell (World.block_lt_of_cell? w _ o6)).trans o6
      have q6 := (HTd.out.2.2.cell (World.block_lt_of_cell? w _ n6)).trans n6
      rw [hwd] at HTd p0 q0 p1 q1 p2 q2 p3 q3 p4 q4 p5 q5 p6 q6
      obtain ⟨nb, hnb⟩ : ∃ nb : Bool, (!(x.f0 == y.f0) || (!(x.f1 == y.f1) || (!(x.f2 == y.f2) || (!(x.f3 == y.f3) || (!(x.f4 == y.f4) || (!(x.f5 == y.f5) || (!(x.f6.toList == y.f6.toList)))))))) = nb := ⟨_, rfl⟩
      refine start_ (n := 11) (S := fun w' => w'.cell? ⟨w.heap.size, 11, none⟩ = some (.slice (some ad) a.D.length c10) ∧ w'.cell? ⟨w.heap.size + 1, 11, none⟩ = some (.slice (some bd) b.D.length d10) ∧ w'.cell? (ad.add (k * 7)) = some (.int .u64 x.f0) ∧ w'.cell? ⟨(ad.add (k * 7)).block, (ad.add (k * 7)).off + 1, none⟩ = some (.int .u64 x.f1) ∧ w'.cell? ⟨(ad.add (k * 7)).block, (ad.add (k * 7)).off + 2, none⟩ = some (.int .u64 x.f2) ∧ w'.cell? ⟨(ad.add (k * 7)).block, (ad.add (k * 7)).off + 3, none⟩ = some (.int .u64 x.f3) ∧ w'.cell? ⟨(ad.add (k * 7)).block, (ad.add (k * 7)).off + 4, none⟩ = some (.int .u64 x.f4) ∧ w'.cell? ⟨(ad.add (k * 7)).block, (ad.add (k * 7)).off + 5, none⟩ = some (.int .u64 x.f5) ∧ w'.cell? ⟨(ad.add (k * 7)).block, (ad.add (k * 7)).off + 6, none⟩ = some (.string x.f6) ∧ w'.cell? (bd.add (k * 7)) = some (.int .u64 y.f0) ∧ w'.cell? ⟨(bd.add (k * 7)).block, (bd.add (k * 7)).off + 1, none⟩ = some (.int .u64 y.f1) ∧ w'.cell? ⟨(bd.add (k * 7)).block, (bd.add (k * 7)).off + 2, none⟩ = some (.int .u64 y.f2) ∧ w'.cell? ⟨(bd.add (k * 7)).block, (bd.add (k * 7)).off + 3, none⟩ = some (.int .u64 y.f3) ∧ w'.cell? ⟨(bd.add (k * 7)).block, (bd.add (k * 7)).off + 4, none⟩ = some (.int .u64 y.f4) ∧ w'.cell? ⟨(bd.add (k * 7)).block, (bd.add (k * 7)).off + 5, none⟩ = some (.int .u64 y.f5) ∧ w'.cell? ⟨(bd.add (k * 7)).block, (bd.add (k * 7)).off + 6, none⟩ = some (.string y.f6)) (ds := []) #[false, false, false, false, false, false, false, false, false, false, false] (by kernel_rfl) (by rfl) (by rfl) ⟨blk_cell HTd.out.1 11, blk_cell HTd.out.2.1 11, p0, p1, p2, p3, p4, p5, p6, q0, q1, q2, q3, q4, q5, q6⟩ (fun hHeld => ?_)
      rw [← hwd] at HTd p0 q0 p1 q1 p2 q2 p3 q3 p4 q4 p5 q5 p6 q6 hHeld ⊢
      clear hwd
      refine pure_ (i := 0) (N := some 111) (v := ?_) (a' := ?_) #[true, false, false, false, false, false, false, false, false, false, false] rfl rfl (by kernel_rfl) (fun _ _ _ h => h) (Or.inl ⟨by rfl, ?_⟩) ?_ ?_
      rotate_left
      ·intro w'
       go_simp
       with_reducible rfl
      rotate_left
      ·simp only [Act.put, pA_, pB_, pC_]
       rfl
      refine pure_ (i := 2) (N := some 113) (v := ?_) (a' := ?_) #[true, false, true, false, false, false, false, false, false, false, false] rfl rfl (by kernel_rfl) (fun _ _ _ h => h) (Or.inl ⟨by rfl, ?_⟩) ?_ ?_
      rotate_left
      ·intro w'
       go_simp
       with_reducible rfl
      rotate_left
      ·simp only [Act.put, pA_, pB_, pC_]
       rfl
      refine pure_ (i := 5) (N := some 116) (v := ?_) (a' := ?_) #[true, false, true, false, false, true, false, false, false, false, false] rfl rfl (by kernel_rfl) (fun _ _ _ h => h) (Or.inl ⟨by rfl, ?_⟩) ?_ ?_
      rotate_left
      ·intro w'
       go_simp
       with_reducible rfl
      rotate_left
      ·simp only [Act.put, pA_, pB_, pC_]
       rfl
      refine pure_ (i := 7) (N := some 118) (v := ?_) (a' := ?_) #[true, false, true, false, false, true, false, true, false, false, false] rfl rfl (by kernel_rfl) (fun _ _ _ h => h) (Or.inl ⟨by rfl, ?_⟩) ?_ ?_
      rotate_left
      ·intro w'
       go_simp
       with_reducible rfl
      rotate_left
      ·simp only [Act.put, pA_, pB_, pC_]
       rfl
      refine take_ (i := 1) (N := some 112) (v := ?_) (a' := ?_) #[true, true, true, false, false, true, false, true, false, false, false] rfl rfl (by kernel_rfl) (fun _ _ _ h => h) (Or.inl ⟨by rfl, ?_⟩) hHeld ?_ ?_
      rotate_left
      ·rintro w' ⟨s0, s1, s2, s3, s4, s5, s6, s7, s8, s9, s10, s11, s12, s13, s14, s15⟩
       go_simp
       with_reducible rfl
      rotate_left
      ·simp only [Act.put, pA_, pB_, pC_]
       rfl
      refine take_ (i := 6) (N := some 117) (v := ?_) (a' := ?_) #[true, true, true, false, false, true, true, true, false, false, false] rfl rfl (by kernel_rfl) (fun _ _ _ h => h) (Or.inl ⟨by rfl, ?_⟩) hHeld ?_ ?_
      rotate_left
      ·rintro w' ⟨s0, s1, s2, s3, s4, s5, s6, s7, s8, s9, s10, s11, s12, s13, s14, s15⟩
       go_simp
       with_reducible rfl
      rotate_left
      ·simp only [Act.put, pA_, pB_, pC_]
       rfl
      refine pure_ (i := 3) (N := some 114) (v := ?_) (a' := ?_) #[true, true, true, true, false, true, true, true, false, false, false] rfl rfl (by kernel_rfl) (fun _ _ _ h => h) (Or.inl ⟨by rfl, ?_⟩) ?_ ?_
      rotate_left
      ·intro w'
       go_simp
       with_reducible rfl
      rotate_left
      ·simp only [Act.put, pA_, pB_, pC_]
       rfl
      refine pure_ (i := 8) (N := some 119) (v := ?_) (a' := ?_) #[true, true, true, true, false, true, true, true, true, false, false] rfl rfl (by kernel_rfl) (fun _ _ _ h => h) (Or.inl ⟨by rfl, ?_⟩) ?_ ?_
      rotate_left
      ·intro w'
       go_simp
       with_reducible rfl
      rotate_left
      ·simp only [Act.put, pA_, pB_, pC_]
       rfl
      refine take_ (i := 4) (N := some 115) (v := ?_) (a' := ?_) #[true, true, true, true, true, true, true, true, true, false, false] rfl rfl (by kernel_rfl) (fun _ _ _ h => h) (Or.inl ⟨by rfl, ?_⟩) hHeld ?_ ?_
      rotate_left
      ·rintro w' ⟨s0, s1, s2, s3, s4, s5, s6, s7, s8, s9, s10, s11, s12, s13, s14, s15⟩
       go_simp
       with_reducible rfl
      rotate_left
      ·simp only [Act.put, pA_, pB_, pC_]
       rfl
      refine take_ (i := 9) (N := some 120) (v := ?_) (a' := ?_) #[true, true, true, true, true, true, true, true, true, true, false] rfl rfl (by kernel_rfl) (fun _ _ _ h => h) (Or.inl ⟨by rfl, ?_⟩) hHeld ?_ ?_
      rotate_left
      ·rintro w' ⟨s0, s1, s2, s3, s4, s5, s6, s7, s8, s9, s10, s11, s12, s13, s14, s15⟩
       go_simp
       with_reducible rfl
      rotate_left
      ·simp only [Act.put, pA_, pB_, pC_]
       rfl
      refine pure_ (i := 10) (N := some 121) (v := ?_) (a' := ?_) #[true, true, true, true, true, true, true, true, true, true, true] rfl rfl (by kernel_rfl) (fun _ _ _ h => h) (Or.inl ⟨by rfl, ?_⟩) ?_ ?_
      rotate_left
      ·intro w'
       go_simp
       with_reducible rfl
      rotate_left
      ·simp only [Act.put, pA_, pB_, pC_]
       rfl
      refine done_ (by kernel_rfl) ?_
      clear p0 q0 o0 n0 p1 q1 o1 n1 p2 q2 o2 n2 p3 q3 o3 n3 p4 q4 o4 n4 p5 q5 o5 n5 p6 q6 o6 n6 hHeld
      by_cases hxy : x = y
      ·have hnf : nb = false := by rw [← hnb]; exact Bool.eq_false_iff.2 (fun h => (eqG_ne x y).1 h hxy)
       subst hnf
       have HXY := Lib.hid hxy
       clear hxy
       go_wp2
       clear hnb
       go_roundw
       case rel => exact ⟨k + 1, by omega, by go_num, Lib.hid ⟨HTd.out, by rw [List.take_succ_eq_append_getElem hlt, List.take_succ_eq_append_getElem hbl, HX.out, HY.out, HXY.out, HEQ.out]⟩⟩
       case measure => simp [intOf]; omega
      ·have hnf : nb = true := by rw [← hnb]; exact (eqG_ne x y).2 hxy
       subst hnf
       have HXY := Lib.hid hxy
       clear hxy
       go_wp2
       go_ret
       refine ⟨?_, HTd.out.2.2⟩
       rw [eqC_false (fun h => HXY.out (by
        have h2 := (diffR_nil.1 h).2.2
        have h3 : a.D[k] = b.D[k] := by simp only [h2]
        exact HX.out.symm.trans (h3.trans HY.out)))]
       rfl
     ·have HL11 := Lib.hid (show a.D = b.D from by
       have h := HR.out.2
       rwa [List.take_of_length_le (by omega), List.take_of_length_le (by omega)] at h)
      have HT11 := Lib.hid HR.out.1
      clear HR hll
      go_wp2
      clear r11 hlt hk1
      go_ret
      refine ⟨?_, HT11.out.2.2⟩
      rw [eqC_true (diffR_nil.2 ⟨HH.out.1, HL10.out, HL11.out⟩)]
      rfl
end Go.Proofs.YthphhogljniofaaDoor

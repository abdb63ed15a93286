-- PRINTED by print.py (a twelfth state) out of the translation. Not trusted: Lean checks it.
import Derived.Test.YtcfbdnlbgcoicaaDoorXEntx0
import Derived.Test.YtcfbdnlbgcoicaaDoorXEntx3
namespace Go.Proofs.YtcfbdnlbgcoicaaDoorX.Ent
open Go.RowKit Go.Proofs.YtcfbdnlbgcoicaaDoorW.PrintWords Go.Proofs.YtcfbdnlbgcoicaaDoorW.PrintLast Go.Proofs.YtcfbdnlbgcoicaaDoorW.PrintMore
attribute [local go_sem] max2_int min2_int max_two min_two max_three min_three max_four min_four   -- for this text's walks alone
set_option linter.unusedVariables false
set_option linter.unusedSimpArgs false

/-! ### graverref10_PutDynamic: function 13 -/
def graverref10_PutDynamic.l0 : Nat → Bool → Bool → List (S52) → ByteArray → Int → Option (ByteArray × Bool)
  | 0, _, _, _, _, _ => none
  | k + 1, x0, x1, x2, x8, x9 => if x9 < (x2.length : Int) then (if 0 ≤ x9 then ((graverref04_Record.f k x0 x1 (([0, 0] : List Int)) (([(rd_T52 x2 x9).f0, (rd_T52 x2 x9).f1] : List Int))).bind fun bt118 => (if bt118.2 = true then (if ((rd_T52 x2 x9).f0) = 0 then (some ((⟨#[]⟩ : ByteArray), false)) else (if x8.size + bt118.1.size ≤ 9223372036854775807 then (graverref10_PutDynamic.l0 k x0 x1 x2 (x8 ++ bt118.1) (wrap64 (x9 + 1))) else (none))) else (some ((⟨#[]⟩ : ByteArray), false)))) else (none)) else (if x0 = true then (if 16 ≤ 281474976710656 then ((some (List.replicate 16 0 : List Int)).bind fun y121 => (if x8.size + (strOfNums y121).size ≤ 9223372036854775807 then (some (x8 ++ (strOfNums y121), true)) else (none))) else (none)) else (if 8 ≤ 281474976710656 then ((some (List.replicate 8 0 : List Int)).bind fun y124 => (if x8.size + (strOfNums y124).size ≤ 9223372036854775807 then (some (x8 ++ (strOfNums y124), true)) else (none))) else (none)))
def graverref10_PutDynamic.f (k : Nat) (a0 : Bool) (a1 : Bool) (l2 : List (S52)) : Option (ByteArray × Bool) := graverref10_PutDynamic.l0 k a0 a1 l2 (⟨#[]⟩ : ByteArray) 0
theorem graverref10_PutDynamic.mono_l : ∀ k, (∀ y0 y1 y2 y3 y4, LeO (graverref10_PutDynamic.l0 k y0 y1 y2 y3 y4) (graverref10_PutDynamic.l0 (k + 1) y0 y1 y2 y3 y4))
  | 0 => fun _ _ _ _ _ r h => by simp [graverref10_PutDynamic.l0] at h
  | k + 1 => by
    have ih0 := graverref10_PutDynamic.mono_l k
    · intro y0 y1 y2 y3 y4
      unfold graverref10_PutDynamic.l0
      repeat' first
      | (with_reducible exact ih0 _ _ _ _ _)
      | (with_reducible exact graverref04_Record.mono _ _ _ _ _)
      | (with_reducible exact LeO.refl _)
      | (with_reducible exact LeO.none _)
      | (with_reducible refine LeO.ite ?_ ?_)
      | (with_reducible refine LeO.bind ?_ (fun _ => ?_))
      | exact ih0 _ _ _ _ _
      | exact graverref04_Record.mono _ _ _ _ _
      | exact LeO.none _
      | refine LeO.ite ?_ ?_
      | refine LeO.bind ?_ (fun _ => ?_)
theorem graverref10_PutDynamic.mono : ∀ a0 a1 a2 k, LeO (graverref10_PutDynamic.f k a0 a1 a2) (graverref10_PutDynamic.f (k + 1) a0 a1 a2) := by
  intro a0 a1 a2 k
  have ih0 := graverref10_PutDynamic.mono_l k
  unfold graverref10_PutDynamic.f
  repeat' first
      | (with_reducible exact ih0 _ _ _ _ _)
      | (with_reducible exact graverref04_Record.mono _ _ _ _ _)
      | (with_reducible exact LeO.refl _)
      | (with_reducible exact LeO.none _)
      | (with_reducible refine LeO.ite ?_ ?_)
      | (with_reducible refine LeO.bind ?_ (fun _ => ?_))
      | exact ih0 _ _ _ _ _
      | exact graverref04_Record.mono _ _ _ _ _
      | exact LeO.none _
      | refine LeO.ite ?_ ?_
      | refine LeO.bind ?_ (fun _ => ?_)
def graverref10_PutDynamic.T5 : Bool × List (List Nat × List Nat) := (true, [([], []), ([], []), ([], []), ([], []), ([], []), ([3, 4], [3, 4]), ([5], [5]), ([6], [6]), ([], []), ([], []), ([8, 9], [8, 9]), ([10], [10]), ([11], [11]), ([7, 12], [7, 12]), ([0, 1, 2, 13], [0, 1, 2, 13]), ([14], [14]), ([15], [15]), ([15], [15]), ([16, 14, 0, 1, 2, 3, 4, 5, 6, 7, 8, 9, 10, 11, 12, 13, 14, 15, 16], [16]), ([17, 18, 0, 1, 2, 3, 4, 5, 6, 7, 8, 9, 10, 11, 12, 13, 14, 15, 16, 17, 18], [17])])
def graverref10_PutDynamic.B5 : List Nat := [0, 0, 0, 0, 0, 24, 56, 120, 0, 0, 768, 1792, 3840, 8184, 16383, 32767, 65535, 65535, 131071, 524287]
theorem graverref10_PutDynamic.tab5 : rtab .any (opsOf Tryd.f13 5) = graverref10_PutDynamic.T5 := by kernel_rfl
theorem graverref10_PutDynamic.bits5 : waitsOk graverref10_PutDynamic.T5.2 graverref10_PutDynamic.B5 = true := by kernel_rfl
set_option maxHeartbeats 8000000 in
set_option maxRecDepth 100000 in
theorem graverref10_PutDynamic.calls (k : Nat) (a0 : Bool) (a1 : Bool) (A2 : Option Addr) (c2 : Nat) (l2 : List (S52)) (r1 : ByteArray) (r2 : Bool) (w : World) (hr2 : Kd.C k52 w A2 l2.length l2) (hc2 : l2.length ≤ c2) (h : graverref10_PutDynamic.f k a0 a1 l2 = some (r1, r2)) :
    Calls Tryd.prog 13 #[.bool a0, .bool a1, .slice A2 l2.length c2] w fun e w' => e = .returned (.tuple #[.string r1, .bool r2]) ∧ Below w.heap.size w w' := by
  have HR2 := Aside0.mk hr2
  have HC2 := Aside0.mk hc2
  clear hr2 hc2
  have HB := Aside0.mk (Below.refl w.heap.size w)
  have H : (graverref10_PutDynamic.l0 k a0 a1 l2 (⟨#[]⟩ : ByteArray) 0) = some (r1, r2) := h
  clear h
  have H' := Aside0.mk H
  clear H
  go_enter Tryd.func13, Tryd.ntmps13
  go_wp2
  go_loopg [8, 9] k (fun kq v8 v9 w' => ∃ (x8_1 : ByteArray) (x9_1 : Int), v8 = .string x8_1 ∧ v9 = .int .i64 x9_1 ∧ Aside0 (graverref10_PutDynamic.l0 kq a0 a1 l2 x8_1 x9_1 = some (r1, r2)) ∧ Aside0 (kq ≤ k) ∧ Aside0 (Below w.heap.size w w'))
  case atStart => exact ⟨((⟨#[]⟩ : ByteArray)), (0), (by first | rfl | (simp; done) | (simp [*]; done)), (by first | rfl | (simp; done) | (simp [*]; done)), H', ⟨Nat.le_refl _⟩, ⟨by repeat (first | (with_reducible first | exact HB.out | apply below_alloc | apply pw_below_drewN | apply below_drew1) | exact HB.out)⟩⟩
  case round =>
    clear H'
    try clear c1
    try clear c2
    try clear p2
    obtain ⟨x8_1, x9_1, rfl, rfl, HA, HK1, HB⟩ := hrel
    cases gk with
    | zero => exact absurd HA.out (by simp [graverref10_PutDynamic.l0])
    | succ k1 =>
      have H := HA.out
      clear HA
      simp only [graverref10_PutDynamic.l0] at H
      by_cases c4 : x9_1 < (l2.length : Int)
      · rw [if_pos c4] at H
        have c4b0 : decide (x9_1 < (l2.length : Int)) = true := decide_eq_true c4
        clear c4
        obtain ⟨y110, hy110⟩ : ∃ y_ : List Int, y_ = (([0, 0] : List Int)) := ⟨_, rfl⟩
        replace H : (if 0 ≤ x9_1 then ((graverref04_Record.f k1 a0 a1 y110 (([(rd_T52 l2 x9_1).f0, (rd_T52 l2 x9_1).f1] : List Int))).bind fun bt118 => (if bt118.2 = true then (if ((rd_T52 l2 x9_1).f0) = 0 then (some ((⟨#[]⟩ : ByteArray), false)) else (if x8_1.size + bt118.1.size ≤ 9223372036854775807 then (graverref10_PutDynamic.l0 k1 a0 a1 l2 (x8_1 ++ bt118.1) (wrap64 (x9_1 + 1))) else (none))) else (some ((⟨#[]⟩ : ByteArray), false)))) else (none)) = some (r1, r2) := by first | (rw [hy110]; with_reducible exact H) | (have H2_ := (Option.bind_some _ _).symm.trans H; rw [hy110]; with_reducible exact H2_) | (have H2_ := (Option.bind_some _ _).symm.trans H; with_reducible exact H2_) | with_reducible exact H | (rw [hy110]; exact H) | exact H
        have Ny110 := Aside0.mk hy110
        clear hy110
        by_cases c5 : 0 ≤ x9_1
        · rw [if_pos c5] at H
          have c5b0 : decide (0 ≤ x9_1) = true := decide_eq_true c5
          clear c5
          obtain ⟨y115, hy115⟩ : ∃ y_ : List Int, y_ = (([(rd_T52 l2 x9_1).f0, (rd_T52 l2 x9_1).f1] : List Int)) := ⟨_, rfl⟩
          replace H : ((graverref04_Record.f k1 a0 a1 y110 y115).bind fun bt118 => (if bt118.2 = true then (if ((rd_T52 l2 x9_1).f0) = 0 then (some ((⟨#[]⟩ : ByteArray), false)) else (if x8_1.size + bt118.1.size ≤ 9223372036854775807 then (graverref10_PutDynamic.l0 k1 a0 a1 l2 (x8_1 ++ bt118.1) (wrap64 (x9_1 + 1))) else (none))) else (some ((⟨#[]⟩ : ByteArray), false)))) = some (r1, r2) := by first | (rw [hy115]; with_reducible exact H) | (have H2_ := (Option.bind_some _ _).symm.trans H; rw [hy115]; with_reducible exact H2_) | (have H2_ := (Option.bind_some _ _).symm.trans H; with_reducible exact H2_) | with_reducible exact H | (rw [hy115]; exact H) | exact H
          have Ny115 := Aside0.mk hy115
          clear hy115
          replace H := Option.bind_eq_some_iff.mp H
          obtain ⟨⟨t118, t119⟩, A60, H⟩ := H
          replace H : (if t119 = true then (if ((rd_T52 l2 x9_1).f0) = 0 then (some ((⟨#[]⟩ : ByteArray), false)) else (if x8_1.size + t118.size ≤ 9223372036854775807 then (graverref10_PutDynamic.l0 k1 a0 a1 l2 (x8_1 ++ t118) (wrap64 (x9_1 + 1))) else (none))) else (some ((⟨#[]⟩ : ByteArray), false))) = some (r1, r2) := H
          have A6 := Aside0.mk A60
          clear A60
          by_cases c7 : t119 = true
          · subst c7
            have H1 : (if ((rd_T52 l2 x9_1).f0) = 0 then (some ((⟨#[]⟩ : ByteArray), false)) else (if x8_1.size + t118.size ≤ 9223372036854775807 then (graverref10_PutDynamic.l0 k1 a0 a1 l2 (x8_1 ++ t118) (wrap64 (x9_1 + 1))) else (none))) = some (r1, r2) := by rw [if_pos rfl] at H; exact H
            clear H
            have H := H1
            clear H1
            by_cases c8 : ((rd_T52 l2 x9_1).f0) = 0
            · rw [if_pos c8] at H
              have c8b0 : (((rd_T52 l2 x9_1).f0) == 0) = true := beq_iff_eq.mpr c8
              have c8b1 : (((rd_T52 l2 x9_1).f0) != 0) = false := bne_eq_false_iff_eq.mpr c8
              clear c8
              simp only [Option.some.injEq, Prod.mk.injEq] at H
              obtain ⟨rfl, rfl⟩ := H
              try go_wp2
              have n0_ := Aside0.mk (below_drew1 HB.out)
              clear HB
              have HB := n0_
              clear n0_
              have p113 : 0 ≤ (x9_1 : Int) := of_decide_eq_true (by first | (with_reducible assumption) | assumption)
              have q113 : x9_1 < (l2.length : Int) := of_decide_eq_true (by first | (with_reducible assumption) | assumption)
              obtain ⟨ad113, e113, hx113_0, hx113_1⟩ := at_T52 HR2.out x9_1 p113 q113
              have hw113_1 := hx113_1
              have hw113_0 := hx113_0
              cases e113
              replace hx113_0 := (HB.out.cell (World.block_lt_of_cell? w _ hx113_0)).trans hx113_0
              replace hx113_1 := (HB.out.cell (World.block_lt_of_cell? w _ hx113_1)).trans hx113_1
              replace p113 := eq_true p113
              replace q113 := eq_true q113
              have p114 : 0 ≤ (x9_1 : Int) := of_decide_eq_true (by first | (with_reducible assumption) | assumption)
              have q114 : x9_1 < (l2.length : Int) := of_decide_eq_true (by first | (with_reducible assumption) | assumption)
              obtain ⟨ad114, e114, hx114_0, hx114_1⟩ := at_T52 HR2.out x9_1 p114 q114
              have hw114_1 := hx114_1
              have hw114_0 := hx114_0
              obtain rfl : ad113 = ad114 := (by injection e114)
              replace hx114_0 := (HB.out.cell (World.block_lt_of_cell? w _ hx114_0)).trans hx114_0
              replace hx114_1 := (HB.out.cell (World.block_lt_of_cell? w _ hx114_1)).trans hx114_1
              replace p114 := eq_true p114
              replace q114 := eq_true q114
              refine start_ (n := 20) (S := fun w' => True) (ds := []) #[false, false, false, false, false, false, false, false, false, false, false, false, false, false, false, false, false, false, false, false] (by kernel_rfl) rfl rfl trivial (fun hHeld => ?_); refine with_tabW graverref10_PutDynamic.tab5 graverref10_PutDynamic.bits5 (fun HT_ HW_ => ?_)
              generalize wr.drew = w9 at HB hx113_0 hx113_1 hx114_0 hx114_1 hHeld ⊢
              refine pure_ (i := 0) (N := some 20) (v := ?_) (a' := ?_) #[true, false, false, false, false, false, false, false, false, false, false, false, false, false, false, false, false, false, false, false] rfl rfl (any_of HT_.out (by kernel_rfl)) (fun _ _ _ h => h) (Or.inl ⟨by rfl, ?_⟩) ?_ ?_
              rotate_left
              · intro w'
                go_simp
                with_reducible rfl
              rotate_left
              · simp only [Act.put, List.setIfInBounds_toArray, List.set_cons_zero, List.set_cons_succ, i64_w, i32_w]
                rfl
              refine pure_ (i := 1) (N := some 21) (v := ?_) (a' := ?_) #[true, true, false, false, false, false, false, false, false, false, false, false, false, false, false, false, false, false, false, false] rfl rfl (any_of HT_.out (by kernel_rfl)) (fun _ _ _ h => h) (Or.inl ⟨by rfl, ?_⟩) ?_ ?_
              rotate_left
              · intro w'
                go_simp
                with_reducible rfl
              rotate_left
              · simp only [Act.put, List.setIfInBounds_toArray, List.set_cons_zero, List.set_cons_succ, i64_w, i32_w]
                rfl
              refine pure_ (i := 3) (N := some 23) (v := ?_) (a' := ?_) #[true, true, false, true, false, false, false, false, false, false, false, false, false, false, false, false, false, false, false, false] rfl rfl (any_of HT_.out (by kernel_rfl)) (fun _ _ _ h => h) (Or.inl ⟨by rfl, ?_⟩) ?_ ?_
              rotate_left
              · intro w'
                go_simp
                with_reducible rfl
              rotate_left
              · simp only [Act.put, List.setIfInBounds_toArray, List.set_cons_zero, List.set_cons_succ, i64_w, i32_w]
                rfl
              refine pure_ (i := 4) (N := some 24) (v := ?_) (a' := ?_) #[true, true, false, true, true, false, false, false, false, false, false, false, false, false, false, false, false, false, false, false] rfl rfl (any_of HT_.out (by kernel_rfl)) (fun _ _ _ h => h) (Or.inl ⟨by rfl, ?_⟩) ?_ ?_
              rotate_left
              · intro w'
                go_simp
                with_reducible rfl
              rotate_left
              · simp only [Act.put, List.setIfInBounds_toArray, List.set_cons_zero, List.set_cons_succ, i64_w, i32_w]
                rfl
              refine pure_ (i := 8) (N := some 28) (v := ?_) (a' := ?_) #[true, true, false, true, true, false, false, false, true, false, false, false, false, false, false, false, false, false, false, false] rfl rfl (any_of HT_.out (by kernel_rfl)) (fun _ _ _ h => h) (Or.inl ⟨by rfl, ?_⟩) ?_ ?_
              rotate_left
              · intro w'
                go_simp
                with_reducible rfl
              rotate_left
              · simp only [Act.put, List.setIfInBounds_toArray, List.set_cons_zero, List.set_cons_succ, i64_w, i32_w]
                rfl
              refine pure_ (i := 9) (N := some 29) (v := ?_) (a' := ?_) #[true, true, false, true, true, false, false, false, true, true, false, false, false, false, false, false, false, false, false, false] rfl rfl (any_of HT_.out (by kernel_rfl)) (fun _ _ _ h => h) (Or.inl ⟨by rfl, ?_⟩) ?_ ?_
              rotate_left
              · intro w'
                go_simp
                with_reducible rfl
              rotate_left
              · simp only [Act.put, List.setIfInBounds_toArray, List.set_cons_zero, List.set_cons_succ, i64_w, i32_w]
                rfl
              refine inv_at [2, 5, 6, 7, 10, 11, 12, 13, 14, 15, 16, 17, 18, 19] (fun a0_ b a w' => ∃ (v111 : Value) (v116 : Value), a = putSel a0_ b [(2, 22, v111), (5, 25, .pointer (some (ad113.add ((x9_1).toNat * 2)))), (6, 26, .pointer (some (ad113.add ((x9_1).toNat * 2)))), (7, 27, .int .u64 ((rd_T52 l2 x9_1).f0)), (10, 30, .pointer (some (ad113.add ((x9_1).toNat * 2)))), (11, 31, .pointer (some ⟨(ad113.add ((x9_1).toNat * 2)).block, (ad113.add ((x9_1).toNat * 2)).off + 1, none⟩)), (12, 32, .int .u64 ((rd_T52 l2 x9_1).f1)), (13, 33, v116), (14, 34, .tuple #[.string t118, .bool true]), (15, 19, .tuple #[.string t118, .bool true]), (16, 35, .string t118), (17, 36, .bool true), (18, 10, .string t118), (19, 11, .bool true)] ∧ (Below w.heap.size w w') ∧ (b 2 = true → Kd.R (Kd.int .i64) 3 w' w.heap.size (fun _ => True) v111 y110) ∧ (b 13 = true → Kd.R (Kd.int .u64) 31 w' w.heap.size (fun _ => True) v116 y115)) HT_.out HW_.out (by kernel_rfl) (by kernel_rfl) ?_ ?_ ?_
              · exact ⟨.bool false, .bool false, by simp only [putSel, Bool.false_eq_true, if_false], HB.out, fun h_ => absurd h_ (by decide), fun h_ => absurd h_ (by decide)⟩
              · skip
                clear HB
                refine steps_cons ?_ ?_
                · rintro b a w' ⟨v111, v116, ha, Q_HB, Q_HO112, Q_HO117⟩ hb_ hon hoff
                  refine ⟨_, rfl, fun K hK => ?_⟩
                  replace ha := Aside0.mk ha
                  have HB := Aside0.mk Q_HB
                  refine Kd.R_lit_step (Kd.int .i64) _ 3 ?hg (N := 22) ?hd (xs := ([0, 0] : List Int)) (inner := [.int .i64 0, .int .i64 0]) (ok := fun _ => True) (okp := fun _ => True) ?hr ?hp (fun _ hk => hk) trivial (Below.refl _ _) (Nat.le_refl _) (by simp) ?_; (case hd => rfl); (case hg => rfl); (case hr => first | (go_simp; done) | (go_simp; rfl)); (case hp => exact (Reps.one (show Kd.M (Kd.int .i64) _ _ _ 0 [.int .i64 0] from rfl) (Reps.one (show Kd.M (Kd.int .i64) _ _ _ 0 [.int .i64 0] from rfl) (Reps.none _ _))))
                  intro v111 w10 ho11 hb hg_ hnew_
                  clear hg_ hnew_
                  (first | rw [← Ny110.out] at ho11 | (simp only [Int.reduceToNat] at ho11; rw [← Ny110.out] at ho11))
                  have n0_ := Aside0.mk (Kd.R_lower ho11 (below_size (by repeat (first | (with_reducible first | exact HB.out | apply below_alloc | apply pw_below_drewN | apply below_drew1) | exact HB.out))))
                  have n1_ := Aside0.mk (below_step (by repeat (first | (with_reducible first | exact HB.out | apply below_alloc | apply pw_below_drewN | apply below_drew1) | exact HB.out)) hb)
                  have z_HO117 := fun (h0_ : b 13 = true) => (show Kd.R (Kd.int .u64) 31 w10 w.heap.size (fun _ => True) v116 y115 from by first | exact (Kd.R_below (by (with_reducible repeat (first | apply Kd.R_alloc | apply Kd.R_drewN | apply Kd.R_drew)); exact (Q_HO117 h0_)) hb) | exact Kd.R_mono (Kd.R_below (by (with_reducible repeat (first | apply Kd.R_alloc | apply Kd.R_drewN | apply Kd.R_drew)); exact (Q_HO117 h0_)) hb) (fun _ h_ => by first | trivial | exact h_ | exact h_.1))
                  clear HB
                  have HO112 := n0_
                  have HB := n1_
                  clear n0_ n1_
                  clear hb ho11
                  refine hK.out _ _ ⟨v111, v116, (by rw [ha.out]; exact putSel_upk 0 hb_ rfl rfl rfl), (by repeat (first | (with_reducible first | exact HB.out | apply below_alloc | apply pw_below_drewN | apply below_drew1) | exact HB.out)), fun _ => (by (with_reducible repeat (first | apply Kd.R_alloc | apply Kd.R_drewN | apply Kd.R_drew)); exact HO112.out), z_HO117⟩
                refine steps_cons ?_ ?_
                · rintro b a w' ⟨v111, v116, ha, Q_HB, Q_HO112, Q_HO117⟩ hb_ hon hoff
                  refine ⟨_, rfl, fun K hK => ?_⟩
                  have e23 : a.tmps[23]? = some (.slice (some ad113) l2.length c2) := by rw [ha]; exact (putSel_off rfl).trans rfl
                  have e24 : a.tmps[24]? = some (.int .i64 x9_1) := by rw [ha]; exact (putSel_off rfl).trans rfl
                  replace ha := Aside0.mk ha
                  have HB := Aside0.mk Q_HB
                  have hs0_ : w'.cell? (ad113.add ((x9_1).toNat * 2)) = some (.int .u64 ((rd_T52 l2 x9_1).f0)) := ((HB.out.cell (World.block_lt_of_cell? w _ hw113_0)).trans hw113_0)
                  have hs1_ : w'.cell? ⟨(ad113.add ((x9_1).toNat * 2)).block, (ad113.add ((x9_1).toNat * 2)).off + 1, none⟩ = some (.int .u64 ((rd_T52 l2 x9_1).f1)) := ((HB.out.cell (World.block_lt_of_cell? w _ hw113_1)).trans hw113_1)
                  refine value_ (w1 := w') (v := .pointer (some (ad113.add ((x9_1).toNat * 2)))) (by rfl) rfl ?_ ?_
                  · go_simp
                    (try simp only [i64_w])
                    try rfl
                  refine hK.out _ _ ⟨v111, v116, (by rw [ha.out]; exact putSel_upk 1 hb_ rfl rfl rfl), Q_HB, Q_HO112, fun h0_ => absurd ((hoff 13 (by kernel_rfl)).symm.trans h0_) (by decide)⟩
                refine steps_cons ?_ ?_
                · rintro b a w' ⟨v111, v116, ha, Q_HB, Q_HO112, Q_HO117⟩ hb_ hon hoff
                  refine ⟨_, rfl, fun K hK => ?_⟩
                  have e25 : a.tmps[25]? = some (.pointer (some (ad113.add ((x9_1).toNat * 2)))) := by rw [ha]; exact putSel_on (e := (5, 25, .pointer (some (ad113.add ((x9_1).toNat * 2))))) 1 rfl rfl (hon 5 (by kernel_rfl)) rfl
                  replace ha := Aside0.mk ha
                  have HB := Aside0.mk Q_HB
                  refine value_ (w1 := w') (v := .pointer (some (ad113.add ((x9_1).toNat * 2)))) (by rfl) rfl ?_ ?_
                  · go_simp
                    (try simp only [i64_w])
                    try rfl
                  refine hK.out _ _ ⟨v111, v116, (by rw [ha.out]; exact putSel_upk 2 hb_ rfl rfl rfl), Q_HB, Q_HO112, fun h0_ => absurd ((hoff 13 (by kernel_rfl)).symm.trans h0_) (by decide)⟩
                refine steps_cons ?_ ?_
                · rintro b a w' ⟨v111, v116, ha, Q_HB, Q_HO112, Q_HO117⟩ hb_ hon hoff
                  refine ⟨_, rfl, fun K hK => ?_⟩
                  have e26 : a.tmps[26]? = some (.pointer (some (ad113.add ((x9_1).toNat * 2)))) := by rw [ha]; exact putSel_on (e := (6, 26, .pointer (some (ad113.add ((x9_1).toNat * 2))))) 2 rfl rfl (hon 6 (by kernel_rfl)) rfl
                  replace ha := Aside0.mk ha
                  have HB := Aside0.mk Q_HB
                  have hs0_ : w'.cell? (ad113.add ((x9_1).toNat * 2)) = some (.int .u64 ((rd_T52 l2 x9_1).f0)) := ((HB.out.cell (World.block_lt_of_cell? w _ hw113_0)).trans hw113_0)
                  have hs1_ : w'.cell? ⟨(ad113.add ((x9_1).toNat * 2)).block, (ad113.add ((x9_1).toNat * 2)).off + 1, none⟩ = some (.int .u64 ((rd_T52 l2 x9_1).f1)) := ((HB.out.cell (World.block_lt_of_cell? w _ hw113_1)).trans hw113_1)
                  refine value_ (w1 := w') (v := .int .u64 ((rd_T52 l2 x9_1).f0)) (by rfl) rfl ?_ ?_
                  · go_simp
                    (try simp only [i64_w])
                    try rfl
                  refine hK.out _ _ ⟨v111, v116, (by rw [ha.out]; exact putSel_upk 3 hb_ rfl rfl rfl), Q_HB, Q_HO112, fun h0_ => absurd ((hoff 13 (by kernel_rfl)).symm.trans h0_) (by decide)⟩
                refine steps_cons ?_ ?_
                · rintro b a w' ⟨v111, v116, ha, Q_HB, Q_HO112, Q_HO117⟩ hb_ hon hoff
                  refine ⟨_, rfl, fun K hK => ?_⟩
                  have e28 : a.tmps[28]? = some (.slice (some ad113) l2.length c2) := by rw [ha]; exact (putSel_off rfl).trans rfl
                  have e29 : a.tmps[29]? = some (.int .i64 x9_1) := by rw [ha]; exact (putSel_off rfl).trans rfl
                  replace ha := Aside0.mk ha
                  have HB := Aside0.mk Q_HB
                  have hs2_ : w'.cell? (ad113.add ((x9_1).toNat * 2)) = some (.int .u64 ((rd_T52 l2 x9_1).f0)) := ((HB.out.cell (World.block_lt_of_cell? w _ hw114_0)).trans hw114_0)
                  have hs3_ : w'.cell? ⟨(ad113.add ((x9_1).toNat * 2)).block, (ad113.add ((x9_1).toNat * 2)).off + 1, none⟩ = some (.int .u64 ((rd_T52 l2 x9_1).f1)) := ((HB.out.cell (World.block_lt_of_cell? w _ hw114_1)).trans hw114_1)
                  refine value_ (w1 := w') (v := .pointer (some (ad113.add ((x9_1).toNat * 2)))) (by rfl) rfl ?_ ?_
                  · go_simp
                    (try simp only [i64_w])
                    try rfl
                  refine hK.out _ _ ⟨v111, v116, (by rw [ha.out]; exact putSel_upk 4 hb_ rfl rfl rfl), Q_HB, Q_HO112, fun h0_ => absurd ((hoff 13 (by kernel_rfl)).symm.trans h0_) (by decide)⟩
                refine steps_cons ?_ ?_
                · rintro b a w' ⟨v111, v116, ha, Q_HB, Q_HO112, Q_HO117⟩ hb_ hon hoff
                  refine ⟨_, rfl, fun K hK => ?_⟩
                  have e30 : a.tmps[30]? = some (.pointer (some (ad113.add ((x9_1).toNat * 2)))) := by rw [ha]; exact putSel_on (e := (10, 30, .pointer (some (ad113.add ((x9_1).toNat * 2))))) 4 rfl rfl (hon 10 (by kernel_rfl)) rfl
                  replace ha := Aside0.mk ha
                  have HB := Aside0.mk Q_HB
                  refine value_ (w1 := w') (v := .pointer (some ⟨(ad113.add ((x9_1).toNat * 2)).block, (ad113.add ((x9_1).toNat * 2)).off + 1, none⟩)) (by rfl) rfl ?_ ?_
                  · go_simp
                    (try simp only [i64_w])
                    try rfl
                  refine hK.out _ _ ⟨v111, v116, (by rw [ha.out]; exact putSel_upk 5 hb_ rfl rfl rfl), Q_HB, Q_HO112, fun h0_ => absurd ((hoff 13 (by kernel_rfl)).symm.trans h0_) (by decide)⟩
                refine steps_cons ?_ ?_
                · rintro b a w' ⟨v111, v116, ha, Q_HB, Q_HO112, Q_HO117⟩ hb_ hon hoff
                  refine ⟨_, rfl, fun K hK => ?_⟩
                  have e31 : a.tmps[31]? = some (.pointer (some ⟨(ad113.add ((x9_1).toNat * 2)).block, (ad113.add ((x9_1).toNat * 2)).off + 1, none⟩)) := by rw [ha]; exact putSel_on (e := (11, 31, .pointer (some ⟨(ad113.add ((x9_1).toNat * 2)).block, (ad113.add ((x9_1).toNat * 2)).off + 1, none⟩))) 5 rfl rfl (hon 11 (by kernel_rfl)) rfl
                  replace ha := Aside0.mk ha
                  have HB := Aside0.mk Q_HB
                  have hs2_ : w'.cell? (ad113.add ((x9_1).toNat * 2)) = some (.int .u64 ((rd_T52 l2 x9_1).f0)) := ((HB.out.cell (World.block_lt_of_cell? w _ hw114_0)).trans hw114_0)
                  have hs3_ : w'.cell? ⟨(ad113.add ((x9_1).toNat * 2)).block, (ad113.add ((x9_1).toNat * 2)).off + 1, none⟩ = some (.int .u64 ((rd_T52 l2 x9_1).f1)) := ((HB.out.cell (World.block_lt_of_cell? w _ hw114_1)).trans hw114_1)
                  refine value_ (w1 := w') (v := .int .u64 ((rd_T52 l2 x9_1).f1)) (by rfl) rfl ?_ ?_
                  · go_simp
                    (try simp only [i64_w])
                    try rfl
                  refine hK.out _ _ ⟨v111, v116, (by rw [ha.out]; exact putSel_upk 6 hb_ rfl rfl rfl), Q_HB, Q_HO112, fun h0_ => absurd ((hoff 13 (by kernel_rfl)).symm.trans h0_) (by decide)⟩
                refine steps_cons ?_ ?_
                · rintro b a w' ⟨v111, v116, ha, Q_HB, Q_HO112, Q_HO117⟩ hb_ hon hoff
                  refine ⟨_, rfl, fun K hK => ?_⟩
                  have e27 : a.tmps[27]? = some (.int .u64 ((rd_T52 l2 x9_1).f0)) := by rw [ha]; exact putSel_on (e := (7, 27, .int .u64 ((rd_T52 l2 x9_1).f0))) 3 rfl rfl (hon 7 (by kernel_rfl)) rfl
                  have e32 : a.tmps[32]? = some (.int .u64 ((rd_T52 l2 x9_1).f1)) := by rw [ha]; exact putSel_on (e := (12, 32, .int .u64 ((rd_T52 l2 x9_1).f1))) 6 rfl rfl (hon 12 (by kernel_rfl)) rfl
                  replace ha := Aside0.mk ha
                  have HB := Aside0.mk Q_HB
                  refine Kd.R_lit_step (Kd.int .u64) _ 31 ?hg (N := 33) ?hd (xs := ([(rd_T52 l2 x9_1).f0, (rd_T52 l2 x9_1).f1] : List Int)) (inner := [.int .u64 ((rd_T52 l2 x9_1).f0), .int .u64 ((rd_T52 l2 x9_1).f1)]) (ok := fun _ => True) (okp := fun _ => True) ?hr ?hp (fun _ hk => hk) trivial (Below.refl _ _) (Nat.le_refl _) (by simp) ?_; (case hd => rfl); (case hg => rfl); (case hr => first | (go_simp; done) | (go_simp; rfl)); (case hp => exact (Reps.one (show Kd.M (Kd.int .u64) _ _ _ ((rd_T52 l2 x9_1).f0) [.int .u64 ((rd_T52 l2 x9_1).f0)] from rfl) (Reps.one (show Kd.M (Kd.int .u64) _ _ _ ((rd_T52 l2 x9_1).f1) [.int .u64 ((rd_T52 l2 x9_1).f1)] from rfl) (Reps.none _ _))))
                  intro v116 w10 ho11 hb hg_ hnew_
                  clear hg_ hnew_
                  (first | rw [← Ny115.out] at ho11 | (simp only [Int.reduceToNat] at ho11; rw [← Ny115.out] at ho11))
                  have n0_ := Aside0.mk (Kd.R_lower ho11 (below_size (by repeat (first | (with_reducible first | exact HB.out | apply below_alloc | apply pw_below_drewN | apply below_drew1) | exact HB.out))))
                  have n1_ := Aside0.mk (below_step (by repeat (first | (with_reducible first | exact HB.out | apply below_alloc | apply pw_below_drewN | apply below_drew1) | exact HB.out)) hb)
                  have z_HO112 := fun (h0_ : b 2 = true) => (show Kd.R (Kd.int .i64) 3 w10 w.heap.size (fun _ => True) v111 y110 from by first | exact (Kd.R_below (by (with_reducible repeat (first | apply Kd.R_alloc | apply Kd.R_drewN | apply Kd.R_drew)); exact (Q_HO112 h0_)) hb) | exact Kd.R_mono (Kd.R_below (by (with_reducible repeat (first | apply Kd.R_alloc | apply Kd.R_drewN | apply Kd.R_drew)); exact (Q_HO112 h0_)) hb) (fun _ h_ => by first | trivial | exact h_ | exact h_.1))
                  clear HB
                  have HO117 := n0_
                  have HB := n1_
                  clear n0_ n1_
                  clear hb ho11
                  refine hK.out _ _ ⟨v111, v116, (by rw [ha.out]; exact putSel_upk 7 hb_ rfl rfl rfl), (by repeat (first | (with_reducible first | exact HB.out | apply below_alloc | apply pw_below_drewN | apply below_drew1) | exact HB.out)), z_HO112, fun _ => (by (with_reducible repeat (first | apply Kd.R_alloc | apply Kd.R_drewN | apply Kd.R_drew)); exact HO117.out)⟩
                refine steps_cons ?_ ?_
                · rintro b a w' ⟨v111, v116, ha, Q_HB, Q_HO112, Q_HO117⟩ hb_ hon hoff
                  refine ⟨_, rfl, fun K hK => ?_⟩
                  have e20 : a.tmps[20]? = some (.bool a0) := by rw [ha]; exact (putSel_off rfl).trans rfl
                  have e21 : a.tmps[21]? = some (.bool a1) := by rw [ha]; exact (putSel_off rfl).trans rfl
                  have e22 : a.tmps[22]? = some (v111) := by rw [ha]; exact putSel_on (e := (2, 22, v111)) 0 rfl rfl (hon 2 (by kernel_rfl)) rfl
                  have e33 : a.tmps[33]? = some (v116) := by rw [ha]; exact putSel_on (e := (13, 33, v116)) 7 rfl rfl (hon 13 (by kernel_rfl)) rfl
                  replace ha := Aside0.mk ha
                  have HB := Aside0.mk Q_HB
                  have HO112 := Aside0.mk (Q_HO112 (hon 2 (by kernel_rfl)))
                  have HO117 := Aside0.mk (Q_HO117 (hon 13 (by kernel_rfl)))
                  obtain ⟨Ao15, co15, eo15⟩ := Kd.R_slice HO112.out
                  (first | subst eo15 | (injection eo15 with f1_ f2_ f3_; have f4_ := f1_.symm; have f5_ := f3_.symm; clear f1_ f2_ f3_; subst f4_; subst f5_))
                  obtain ⟨Ao16, co16, eo16⟩ := Kd.R_slice HO117.out
                  (first | subst eo16 | (injection eo16 with f1_ f2_ f3_; have f4_ := f1_.symm; have f5_ := f3_.symm; clear f1_ f2_ f3_; subst f4_; subst f5_))
                  refine goes_ Tryd.func31 (by kernel_rfl) rfl #[.bool a0, .bool a1, .slice Ao15 y110.length co15, .slice Ao16 y115.length co16] (by rfl) rfl rfl (by first | (simp only [List.map_toArray, List.map_cons, List.map_nil, Act.eval, Array.getD_eq_getD_getElem?, Option.getD_some, e20, e21, e22, e33]; done) | (simp only [List.map_toArray, List.map_cons, List.map_nil, Act.eval, Array.getD_eq_getD_getElem?, Option.getD_some, e20, e21, e22, e33]; rfl)) ?_
                  with_reducible refine (graverref04_Record.calls k1 a0 a1 _ _ y110 _ _ y115 t118 true _ ?side1 ?side2 ?side3 ?side4 A6.out).mono ?_
                  (case side1 => repeat (first | exact (Kd.R_reads' HO112.out).2.2 | (with_reducible refine Kd.C_alloc ?_ _) | (with_reducible refine Kd.C_drewN ?_ _) | (with_reducible refine Kd.C_drew ?_)))
                  (case side2 => exact (Kd.R_reads' HO112.out).2.1)
                  (case side3 => repeat (first | exact (Kd.R_reads' HO117.out).2.2 | (with_reducible refine Kd.C_alloc ?_ _) | (with_reducible refine Kd.C_drewN ?_ _) | (with_reducible refine Kd.C_drew ?_)))
                  (case side4 => exact (Kd.R_reads' HO117.out).2.1)
                  rintro e w17 ⟨rfl, hb⟩
                  refine ⟨_, rfl, ?_⟩
                  have n0_ := Aside0.mk (Kd.R_below (by (with_reducible repeat (first | apply Kd.R_alloc | apply Kd.R_drewN | apply Kd.R_drew)); exact HO112.out) hb)
                  have n1_ := Aside0.mk (Kd.R_below (by (with_reducible repeat (first | apply Kd.R_alloc | apply Kd.R_drewN | apply Kd.R_drew)); exact HO117.out) hb)
                  have n2_ := Aside0.mk (below_step (by repeat (first | (with_reducible first | exact HB.out | apply below_alloc | apply pw_below_drewN | apply below_drew1) | exact HB.out)) hb)
                  clear HO112
                  clear HO117
                  clear HB
                  have HO112 := n0_
                  have HO117 := n1_
                  have HB := n2_
                  clear n0_ n1_ n2_
                  (try clear hb)
                  (try clear hb2)
                  (try clear hk)
                  (try clear hi)
                  refine hK.out _ _ ⟨.slice Ao15 y110.length co15, .slice Ao16 y115.length co16, (by rw [ha.out]; exact putSel_upk 8 hb_ rfl rfl rfl), (by repeat (first | (with_reducible first | exact HB.out | apply below_alloc | apply pw_below_drewN | apply below_drew1) | exact HB.out)), fun _ => (by (with_reducible repeat (first | apply Kd.R_alloc | apply Kd.R_drewN | apply Kd.R_drew)); exact HO112.out), fun _ => (by (with_reducible repeat (first | apply Kd.R_alloc | apply Kd.R_drewN | apply Kd.R_drew)); exact HO117.out)⟩
                refine steps_cons ?_ ?_
                · rintro b a w' ⟨v111, v116, ha, Q_HB, Q_HO112, Q_HO117⟩ hb_ hon hoff
                  refine ⟨_, rfl, fun K hK => ?_⟩
                  have e34 : a.tmps[34]? = some (.tuple #[.string t118, .bool true]) := by rw [ha]; exact putSel_on (e := (14, 34, .tuple #[.string t118, .bool true])) 8 rfl rfl (hon 14 (by kernel_rfl)) rfl
                  replace ha := Aside0.mk ha
                  have HB := Aside0.mk Q_HB
                  have HO112 := Aside0.mk (Q_HO112 (hon 2 (by kernel_rfl)))
                  have HO117 := Aside0.mk (Q_HO117 (hon 13 (by kernel_rfl)))
                  refine value_ (w1 := w') (v := .tuple #[.string t118, .bool true]) (by rfl) rfl ?_ ?_
                  · go_simp
                    (try simp only [i64_w])
                    try rfl
                  refine hK.out _ _ ⟨v111, v116, (by rw [ha.out]; exact putSel_upk 9 hb_ rfl rfl rfl), Q_HB, Q_HO112, Q_HO117⟩
                refine steps_cons ?_ ?_
                · rintro b a w' ⟨v111, v116, ha, Q_HB, Q_HO112, Q_HO117⟩ hb_ hon hoff
                  refine ⟨_, rfl, fun K hK => ?_⟩
                  have e19 : a.tmps[19]? = some (.tuple #[.string t118, .bool true]) := by rw [ha]; exact putSel_on (e := (15, 19, .tuple #[.string t118, .bool true])) 9 rfl rfl (hon 15 (by kernel_rfl)) rfl
                  replace ha := Aside0.mk ha
                  have HB := Aside0.mk Q_HB
                  have HO112 := Aside0.mk (Q_HO112 (hon 2 (by kernel_rfl)))
                  have HO117 := Aside0.mk (Q_HO117 (hon 13 (by kernel_rfl)))
                  refine value_ (w1 := w') (v := .string t118) (by rfl) rfl ?_ ?_
                  · go_simp
                    (try simp only [i64_w])
                    try rfl
                  refine hK.out _ _ ⟨v111, v116, (by rw [ha.out]; exact putSel_upk 10 hb_ rfl rfl rfl), Q_HB, Q_HO112, Q_HO117⟩
                refine steps_cons ?_ ?_
                · rintro b a w' ⟨v111, v116, ha, Q_HB, Q_HO112, Q_HO117⟩ hb_ hon hoff
                  refine ⟨_, rfl, fun K hK => ?_⟩
                  have e19 : a.tmps[19]? = some (.tuple #[.string t118, .bool true]) := by rw [ha]; exact putSel_on (e := (15, 19, .tuple #[.string t118, .bool true])) 9 rfl rfl (hon 15 (by kernel_rfl)) rfl
                  replace ha := Aside0.mk ha
                  have HB := Aside0.mk Q_HB
                  have HO112 := Aside0.mk (Q_HO112 (hon 2 (by kernel_rfl)))
                  have HO117 := Aside0.mk (Q_HO117 (hon 13 (by kernel_rfl)))
                  refine value_ (w1 := w') (v := .bool true) (by rfl) rfl ?_ ?_
                  · go_simp
                    (try simp only [i64_w])
                    try rfl
                  refine hK.out _ _ ⟨v111, v116, (by rw [ha.out]; exact putSel_upk 11 hb_ rfl rfl rfl), Q_HB, Q_HO112, Q_HO117⟩
                refine steps_cons ?_ ?_
                · rintro b a w' ⟨v111, v116, ha, Q_HB, Q_HO112, Q_HO117⟩ hb_ hon hoff
                  refine ⟨_, rfl, fun K hK => ?_⟩
                  have e35 : a.tmps[35]? = some (.string t118) := by rw [ha]; exact putSel_on (e := (16, 35, .string t118)) 10 rfl rfl (hon 16 (by kernel_rfl)) rfl
                  replace ha := Aside0.mk ha
                  have HB := Aside0.mk Q_HB
                  have HO112 := Aside0.mk (Q_HO112 (hon 2 (by kernel_rfl)))
                  have HO117 := Aside0.mk (Q_HO117 (hon 13 (by kernel_rfl)))
                  refine value_ (w1 := w') (v := .string t118) (by rfl) rfl ?_ ?_
                  · go_simp
                    (try simp only [i64_w])
                    try rfl
                  refine hK.out _ _ ⟨v111, v116, (by rw [ha.out]; exact putSel_upk 12 hb_ rfl rfl rfl), Q_HB, Q_HO112, Q_HO117⟩
                refine steps_cons ?_ ?_
                · rintro b a w' ⟨v111, v116, ha, Q_HB, Q_HO112, Q_HO117⟩ hb_ hon hoff
                  refine ⟨_, rfl, fun K hK => ?_⟩
                  have e36 : a.tmps[36]? = some (.bool true) := by rw [ha]; exact putSel_on (e := (17, 36, .bool true)) 11 rfl rfl (hon 17 (by kernel_rfl)) rfl
                  replace ha := Aside0.mk ha
                  have HB := Aside0.mk Q_HB
                  have HO112 := Aside0.mk (Q_HO112 (hon 2 (by kernel_rfl)))
                  have HO117 := Aside0.mk (Q_HO117 (hon 13 (by kernel_rfl)))
                  refine value_ (w1 := w') (v := .bool true) (by rfl) rfl ?_ ?_
                  · go_simp
                    (try simp only [i64_w])
                    try rfl
                  refine hK.out _ _ ⟨v111, v116, (by rw [ha.out]; exact putSel_upk 13 hb_ rfl rfl rfl), Q_HB, Q_HO112, Q_HO117⟩
                exact steps_nil
              rintro b a w17 hall ⟨v111, v116, ha, Q_HB, Q_HO112, Q_HO117⟩
              clear HB
              have hb2_ := hall 2 (by kernel_rfl)
              have hb5_ := hall 5 (by kernel_rfl)
              have hb6_ := hall 6 (by kernel_rfl)
              have hb7_ := hall 7 (by kernel_rfl)
              have hb10_ := hall 10 (by kernel_rfl)
              have hb11_ := hall 11 (by kernel_rfl)
              have hb12_ := hall 12 (by kernel_rfl)
              have hb13_ := hall 13 (by kernel_rfl)
              have hb14_ := hall 14 (by kernel_rfl)
              have hb15_ := hall 15 (by kernel_rfl)
              have hb16_ := hall 16 (by kernel_rfl)
              have hb17_ := hall 17 (by kernel_rfl)
              have hb18_ := hall 18 (by kernel_rfl)
              have hb19_ := hall 19 (by kernel_rfl)
              subst ha
              simp only [putSel, hb2_, hb5_, hb6_, hb7_, hb10_, hb11_, hb12_, hb13_, hb14_, hb15_, hb16_, hb17_, hb18_, hb19_, if_true, Act.put, List.setIfInBounds_toArray, List.set_cons_zero, List.set_cons_succ]
              have HB := Aside0.mk Q_HB
              clear Q_HB
              have HO112 := Aside0.mk (Q_HO112 hb2_)
              clear Q_HO112
              have HO117 := Aside0.mk (Q_HO117 hb13_)
              clear Q_HO117
              clear hall hb2_ hb5_ hb6_ hb7_ hb10_ hb11_ hb12_ hb13_ hb14_ hb15_ hb16_ hb17_ hb18_ hb19_
              have p120 : 0 ≤ (x9_1 : Int) := of_decide_eq_true (by first | (with_reducible assumption) | assumption)
              have q120 : x9_1 < (l2.length : Int) := of_decide_eq_true (by first | (with_reducible assumption) | assumption)
              obtain ⟨ad120, e120, hx120_0, hx120_1⟩ := at_T52 HR2.out x9_1 p120 q120
              obtain rfl : ad113 = ad120 := (by injection e120)
              replace hx120_0 := (HB.out.cell (World.block_lt_of_cell? w _ hx120_0)).trans hx120_0
              replace hx120_1 := (HB.out.cell (World.block_lt_of_cell? w _ hx120_1)).trans hx120_1
              replace p120 := eq_true p120
              replace q120 := eq_true q120
              try go_wp2
              go_ret2
              exact ⟨by first | rfl | (simp [errW_none, errW_some] <;> rfl) | (simp [*, errW_none, errW_some] <;> rfl), by repeat (first | (with_reducible first | exact HB.out | apply below_alloc | apply pw_below_drewN | apply below_drew1) | exact HB.out)⟩
            · rw [if_neg c8] at H
              have c8b0 : (((rd_T52 l2 x9_1).f0) == 0) = false := beq_eq_false_iff_ne.mpr c8
              have c8b1 : (((rd_T52 l2 x9_1).f0) != 0) = true := bne_iff_ne.mpr c8
              by_cases c18 : x8_1.size + t118.size ≤ 9223372036854775807
              · rw [if_pos c18] at H
                have c18b0 := eq_true c18
                have c18b1 : decide (x8_1.size + t118.size ≤ 9223372036854775807) = true := decide_eq_true c18
                try have c18b2 : (9223372036854775807 < x8_1.size + t118.size) = False := eq_false (Nat.not_lt.2 c18)
                have H' := Aside0.mk H
                clear H
                try go_wp2
                have n0_ := Aside0.mk (below_drew1 HB.out)
                clear HB
                have HB := n0_
                clear n0_
                have p113 : 0 ≤ (x9_1 : Int) := of_decide_eq_true (by first | (with_reducible assumption) | assumption)
                have q113 : x9_1 < (l2.length : Int) := of_decide_eq_true (by first | (with_reducible assumption) | assumption)
                obtain ⟨ad113, e113, hx113_0, hx113_1⟩ := at_T52 HR2.out x9_1 p113 q113
                have hw113_1 := hx113_1
                have hw113_0 := hx113_0
                cases e113
                replace hx113_0 := (HB.out.cell (World.block_lt_of_cell? w _ hx113_0)).trans hx113_0
                replace hx113_1 := (HB.out.cell (World.block_lt_of_cell? w _ hx113_1)).trans hx113_1
                replace p113 := eq_true p113
                replace q113 := eq_true q113
                have p114 : 0 ≤ (x9_1 : Int) := of_decide_eq_true (by first | (with_reducible assumption) | assumption)
                have q114 : x9_1 < (l2.length : Int) := of_decide_eq_true (by first | (with_reducible assumption) | assumption)
                obtain ⟨ad114, e114, hx114_0, hx114_1⟩ := at_T52 HR2.out x9_1 p114 q114
                have hw114_1 := hx114_1
                have hw114_0 := hx114_0
                obtain rfl : ad113 = ad114 := (by injection e114)
                replace hx114_0 := (HB.out.cell (World.block_lt_of_cell? w _ hx114_0)).trans hx114_0
                replace hx114_1 := (HB.out.cell (World.block_lt_of_cell? w _ hx114_1)).trans hx114_1
                replace p114 := eq_true p114
                replace q114 := eq_true q114
                refine start_ (n := 20) (S := fun w' => True) (ds := []) #[false, false, false, false, false, false, false, false, false, false, false, false, false, false, false, false, false, false, false, false] (by kernel_rfl) rfl rfl trivial (fun hHeld => ?_); refine with_tabW graverref10_PutDynamic.tab5 graverref10_PutDynamic.bits5 (fun HT_ HW_ => ?_)
                generalize wr.drew = w19 at HB hx113_0 hx113_1 hx114_0 hx114_1 hHeld ⊢
                refine pure_ (i := 0) (N := some 20) (v := ?_) (a' := ?_) #[true, false, false, false, false, false, false, false, false, false, false, false, false, false, false, false, false, false, false, false] rfl rfl (any_of HT_.out (by kernel_rfl)) (fun _ _ _ h => h) (Or.inl ⟨by rfl, ?_⟩) ?_ ?_
                rotate_left
                · intro w'
                  go_simp
                  with_reducible rfl
                rotate_left
                · simp only [Act.put, List.setIfInBounds_toArray, List.set_cons_zero, List.set_cons_succ, i64_w, i32_w]
                  rfl
                refine pure_ (i := 1) (N := some 21) (v := ?_) (a' := ?_) #[true, true, false, false, false, false, false, false, false, false, false, false, false, false, false, false, false, false, false, false] rfl rfl (any_of HT_.out (by kernel_rfl)) (fun _ _ _ h => h) (Or.inl ⟨by rfl, ?_⟩) ?_ ?_
                rotate_left
                · intro w'
                  go_simp
                  with_reducible rfl
                rotate_left
                · simp only [Act.put, List.setIfInBounds_toArray, List.set_cons_zero, List.set_cons_succ, i64_w, i32_w]
                  rfl
                refine pure_ (i := 3) (N := some 23) (v := ?_) (a' := ?_) #[true, true, false, true, false, false, false, false, false, false, false, false, false, false, false, false, false, false, false, false] rfl rfl (any_of HT_.out (by kernel_rfl)) (fun _ _ _ h => h) (Or.inl ⟨by rfl, ?_⟩) ?_ ?_
                rotate_left
                · intro w'
                  go_simp
                  with_reducible rfl
                rotate_left
                · simp only [Act.put, List.setIfInBounds_toArray, List.set_cons_zero, List.set_cons_succ, i64_w, i32_w]
                  rfl
                refine pure_ (i := 4) (N := some 24) (v := ?_) (a' := ?_) #[true, true, false, true, true, false, false, false, false, false, false, false, false, false, false, false, false, false, false, false] rfl rfl (any_of HT_.out (by kernel_rfl)) (fun _ _ _ h => h) (Or.inl ⟨by rfl, ?_⟩) ?_ ?_
                rotate_left
                · intro w'
                  go_simp
                  with_reducible rfl
                rotate_left
                · simp only [Act.put, List.setIfInBounds_toArray, List.set_cons_zero, List.set_cons_succ, i64_w, i32_w]
                  rfl
                refine pure_ (i := 8) (N := some 28) (v := ?_) (a' := ?_) #[true, true, false, true, true, false, false, false, true, false, false, false, false, false, false, false, false, false, false, false] rfl rfl (any_of HT_.out (by kernel_rfl)) (fun _ _ _ h => h) (Or.inl ⟨by rfl, ?_⟩) ?_ ?_
                rotate_left
                · intro w'
                  go_simp
                  with_reducible rfl
                rotate_left
                · simp only [Act.put, List.setIfInBounds_toArray, List.set_cons_zero, List.set_cons_succ, i64_w, i32_w]
                  rfl
                refine pure_ (i := 9) (N := some 29) (v := ?_) (a' := ?_) #[true, true, false, true, true, false, false, false, true, true, false, false, false, false, false, false, false, false, false, false] rfl rfl (any_of HT_.out (by kernel_rfl)) (fun _ _ _ h => h) (Or.inl ⟨by rfl, ?_⟩) ?_ ?_
                rotate_left
                · intro w'
                  go_simp
                  with_reducible rfl
                rotate_left
                · simp only [Act.put, List.setIfInBounds_toArray, List.set_cons_zero, List.set_cons_succ, i64_w, i32_w]
                  rfl
                refine inv_at [2, 5, 6, 7, 10, 11, 12, 13, 14, 15, 16, 17, 18, 19] (fun a0_ b a w' => ∃ (v111 : Value) (v116 : Value), a = putSel a0_ b [(2, 22, v111), (5, 25, .pointer (some (ad113.add ((x9_1).toNat * 2)))), (6, 26, .pointer (some (ad113.add ((x9_1).toNat * 2)))), (7, 27, .int .u64 ((rd_T52 l2 x9_1).f0)), (10, 30, .pointer (some (ad113.add ((x9_1).toNat * 2)))), (11, 31, .pointer (some ⟨(ad113.add ((x9_1).toNat * 2)).block, (ad113.add ((x9_1).toNat * 2)).off + 1, none⟩)), (12, 32, .int .u64 ((rd_T52 l2 x9_1).f1)), (13, 33, v116), (14, 34, .tuple #[.string t118, .bool true]), (15, 19, .tuple #[.string t118, .bool true]), (16, 35, .string t118), (17, 36, .bool true), (18, 10, .string t118), (19, 11, .bool true)] ∧ (Below w.heap.size w w') ∧ (b 2 = true → Kd.R (Kd.int .i64) 3 w' w.heap.size (fun _ => True) v111 y110) ∧ (b 13 = true → Kd.R (Kd.int .u64) 31 w' w.heap.size (fun _ => True) v116 y115)) HT_.out HW_.out (by kernel_rfl) (by kernel_rfl) ?_ ?_ ?_
                · exact ⟨.bool false, .bool false, by simp only [putSel, Bool.false_eq_true, if_false], HB.out, fun h_ => absurd h_ (by decide), fun h_ => absurd h_ (by decide)⟩
                · skip
                  clear HB
                  refine steps_cons ?_ ?_
                  · rintro b a w' ⟨v111, v116, ha, Q_HB, Q_HO112, Q_HO117⟩ hb_ hon hoff
                    refine ⟨_, rfl, fun K hK => ?_⟩
                    replace ha := Aside0.mk ha
                    have HB := Aside0.mk Q_HB
                    refine Kd.R_lit_step (Kd.int .i64) _ 3 ?hg (N := 22) ?hd (xs := ([0, 0] : List Int)) (inner := [.int .i64 0, .int .i64 0]) (ok := fun _ => True) (okp := fun _ => True) ?hr ?hp (fun _ hk => hk) trivial (Below.refl _ _) (Nat.le_refl _) (by simp) ?_; (case hd => rfl); (case hg => rfl); (case hr => first | (go_simp; done) | (go_simp; rfl)); (case hp => exact (Reps.one (show Kd.M (Kd.int .i64) _ _ _ 0 [.int .i64 0] from rfl) (Reps.one (show Kd.M (Kd.int .i64) _ _ _ 0 [.int .i64 0] from rfl) (Reps.none _ _))))
                    intro v111 w20 ho21 hb hg_ hnew_
                    clear hg_ hnew_
                    (first | rw [← Ny110.out] at ho21 | (simp only [Int.reduceToNat] at ho21; rw [← Ny110.out] at ho21))
                    have n0_ := Aside0.mk (Kd.R_lower ho21 (below_size (by repeat (first | (with_reducible first | exact HB.out | apply below_alloc | apply pw_below_drewN | apply below_drew1) | exact HB.out))))
                    have n1_ := Aside0.mk (below_step (by repeat (first | (with_reducible first | exact HB.out | apply below_alloc | apply pw_below_drewN | apply below_drew1) | exact HB.out)) hb)
                    have z_HO117 := fun (h0_ : b 13 = true) => (show Kd.R (Kd.int .u64) 31 w20 w.heap.size (fun _ => True) v116 y115 from by first | exact (Kd.R_below (by (with_reducible repeat (first | apply Kd.R_alloc | apply Kd.R_drewN | apply Kd.R_drew)); exact (Q_HO117 h0_)) hb) | exact Kd.R_mono (Kd.R_below (by (with_reducible repeat (first | apply Kd.R_alloc | apply Kd.R_drewN | apply Kd.R_drew)); exact (Q_HO117 h0_)) hb) (fun _ h_ => by first | trivial | exact h_ | exact h_.1))
                    clear HB
                    have HO112 := n0_
                    have HB := n1_
                    clear n0_ n1_
                    clear hb ho21
                    refine hK.out _ _ ⟨v111, v116, (by rw [ha.out]; exact putSel_upk 0 hb_ rfl rfl rfl), (by repeat (first | (with_reducible first | exact HB.out | apply below_alloc | apply pw_below_drewN | apply below_drew1) | exact HB.out)), fun _ => (by (with_reducible repeat (first | apply Kd.R_alloc | apply Kd.R_drewN | apply Kd.R_drew)); exact HO112.out), z_HO117⟩
                  refine steps_cons ?_ ?_
                  · rintro b a w' ⟨v111, v116, ha, Q_HB, Q_HO112, Q_HO117⟩ hb_ hon hoff
                    refine ⟨_, rfl, fun K hK => ?_⟩
                    have e23 : a.tmps[23]? = some (.slice (some ad113) l2.length c2) := by rw [ha]; exact (putSel_off rfl).trans rfl
                    have e24 : a.tmps[24]? = some (.int .i64 x9_1) := by rw [ha]; exact (putSel_off rfl).trans rfl
                    replace ha := Aside0.mk ha
                    have HB := Aside0.mk Q_HB
                    have hs0_ : w'.cell? (ad113.add ((x9_1).toNat * 2)) = some (.int .u64 ((rd_T52 l2 x9_1).f0)) := ((HB.out.cell (World.block_lt_of_cell? w _ hw113_0)).trans hw113_0)
                    have hs1_ : w'.cell? ⟨(ad113.add ((x9_1).toNat * 2)).block, (ad113.add ((x9_1).toNat * 2)).off + 1, none⟩ = some (.int .u64 ((rd_T52 l2 x9_1).f1)) := ((HB.out.cell (World.block_lt_of_cell? w _ hw113_1)).trans hw113_1)
                    refine value_ (w1 := w') (v := .pointer (some (ad113.add ((x9_1).toNat * 2)))) (by rfl) rfl ?_ ?_
                    · go_simp
                      (try simp only [i64_w])
                      try rfl
                    refine hK.out _ _ ⟨v111, v116, (by rw [ha.out]; exact putSel_upk 1 hb_ rfl rfl rfl), Q_HB, Q_HO112, fun h0_ => absurd ((hoff 13 (by kernel_rfl)).symm.trans h0_) (by decide)⟩
                  refine steps_cons ?_ ?_
                  · rintro b a w' ⟨v111, v116, ha, Q_HB, Q_HO112, Q_HO117⟩ hb_ hon hoff
                    refine ⟨_, rfl, fun K hK => ?_⟩
                    have e25 : a.tmps[25]? = some (.pointer (some (ad113.add ((x9_1).toNat * 2)))) := by rw [ha]; exact putSel_on (e := (5, 25, .pointer (some (ad113.add ((x9_1).toNat * 2))))) 1 rfl rfl (hon 5 (by kernel_rfl)) rfl
                    replace ha := Aside0.mk ha
                    have HB := Aside0.mk Q_HB
                    refine value_ (w1 := w') (v := .pointer (some (ad113.add ((x9_1).toNat * 2)))) (by rfl) rfl ?_ ?_
                    · go_simp
                      (try simp only [i64_w])
                      try rfl
                    refine hK.out _ _ ⟨v111, v116, (by rw [ha.out]; exact putSel_upk 2 hb_ rfl rfl rfl), Q_HB, Q_HO112, fun h0_ => absurd ((hoff 13 (by kernel_rfl)).symm.trans h0_) (by decide)⟩
                  refine steps_cons ?_ ?_
                  · rintro b a w' ⟨v111, v116, ha, Q_HB, Q_HO112, Q_HO117⟩ hb_ hon hoff
                    refine ⟨_, rfl, fun K hK => ?_⟩
                    have e26 : a.tmps[26]? = some (.pointer (some (ad113.add ((x9_1).toNat * 2)))) := by rw [ha]; exact putSel_on (e := (6, 26, .pointer (some (ad113.add ((x9_1).toNat * 2))))) 2 rfl rfl (hon 6 (by kernel_rfl)) rfl
                    replace ha := Aside0.mk ha
                    have HB := Aside0.mk Q_HB
                    have hs0_ : w'.cell? (ad113.add ((x9_1).toNat * 2)) = some (.int .u64 ((rd_T52 l2 x9_1).f0)) := ((HB.out.cell (World.block_lt_of_cell? w _ hw113_0)).trans hw113_0)
                    have hs1_ : w'.cell? ⟨(ad113.add ((x9_1).toNat * 2)).block, (ad113.add ((x9_1).toNat * 2)).off + 1, none⟩ = some (.int .u64 ((rd_T52 l2 x9_1).f1)) := ((HB.out.cell (World.block_lt_of_cell? w _ hw113_1)).trans hw113_1)
                    refine value_ (w1 := w') (v := .int .u64 ((rd_T52 l2 x9_1).f0)) (by rfl) rfl ?_ ?_
                    · go_simp
                      (try simp only [i64_w])
                      try rfl
                    refine hK.out _ _ ⟨v111, v116, (by rw [ha.out]; exact putSel_upk 3 hb_ rfl rfl rfl), Q_HB, Q_HO112, fun h0_ => absurd ((hoff 13 (by kernel_rfl)).symm.trans h0_) (by decide)⟩
                  refine steps_cons ?_ ?_
                  · rintro b a w' ⟨v111, v116, ha, Q_HB, Q_HO112, Q_HO117⟩ hb_ hon hoff
                    refine ⟨_, rfl, fun K hK => ?_⟩
                    have e28 : a.tmps[28]? = some (.slice (some ad113) l2.length c2) := by rw [ha]; exact (putSel_off rfl).trans rfl
                    have e29 : a.tmps[29]? = some (.int .i64 x9_1) := by rw [ha]; exact (putSel_off rfl).trans rfl
                    replace ha := Aside0.mk ha
                    have HB := Aside0.mk Q_HB
                    have hs2_ : w'.cell? (ad113.add ((x9_1).toNat * 2)) = some (.int .u64 ((rd_T52 l2 x9_1).f0)) := ((HB.out.cell (World.block_lt_of_cell? w _ hw114_0)).trans hw114_0)
                    have hs3_ : w'.cell? ⟨(ad113.add ((x9_1).toNat * 2)).block, (ad113.add ((x9_1).toNat * 2)).off + 1, none⟩ = some (.int .u64 ((rd_T52 l2 x9_1).f1)) := ((HB.out.cell (World.block_lt_of_cell? w _ hw114_1)).trans hw114_1)
                    refine value_ (w1 := w') (v := .pointer (some (ad113.add ((x9_1).toNat * 2)))) (by rfl) rfl ?_ ?_
                    · go_simp
                      (try simp only [i64_w])
                      try rfl
                    refine hK.out _ _ ⟨v111, v116, (by rw [ha.out]; exact putSel_upk 4 hb_ rfl rfl rfl), Q_HB, Q_HO112, fun h0_ => absurd ((hoff 13 (by kernel_rfl)).symm.trans h0_) (by decide)⟩
                  refine steps_cons ?_ ?_
                  · rintro b a w' ⟨v111, v116, ha, Q_HB, Q_HO112, Q_HO117⟩ hb_ hon hoff
                    refine ⟨_, rfl, fun K hK => ?_⟩
                    have e30 : a.tmps[30]? = some (.pointer (some (ad113.add ((x9_1).toNat * 2)))) := by rw [ha]; exact putSel_on (e := (10, 30, .pointer (some (ad113.add ((x9_1).toNat * 2))))) 4 rfl rfl (hon 10 (by kernel_rfl)) rfl
                    replace ha := Aside0.mk ha
                    have HB := Aside0.mk Q_HB
                    refine value_ (w1 := w') (v := .pointer (some ⟨(ad113.add ((x9_1).toNat * 2)).block, (ad113.add ((x9_1).toNat * 2)).off + 1, none⟩)) (by rfl) rfl ?_ ?_
                    · go_simp
                      (try simp only [i64_w])
                      try rfl
                    refine hK.out _ _ ⟨v111, v116, (by rw [ha.out]; exact putSel_upk 5 hb_ rfl rfl rfl), Q_HB, Q_HO112, fun h0_ => absurd ((hoff 13 (by kernel_rfl)).symm.trans h0_) (by decide)⟩
                  refine steps_cons ?_ ?_
                  · rintro b a w' ⟨v111, v116, ha, Q_HB, Q_HO112, Q_HO117⟩ hb_ hon hoff
                    refine ⟨_, rfl, fun K hK => ?_⟩
                    have e31 : a.tmps[31]? = some (.pointer (some ⟨(ad113.add ((x9_1).toNat * 2)).block, (ad113.add ((x9_1).toNat * 2)).off + 1, none⟩)) := by rw [ha]; exact putSel_on (e := (11, 31, .pointer (some ⟨(ad113.add ((x9_1).toNat * 2)).block, (ad113.add ((x9_1).toNat * 2)).off + 1, none⟩))) 5 rfl rfl (hon 11 (by kernel_rfl)) rfl
                    replace ha := Aside0.mk ha
                    have HB := Aside0.mk Q_HB
                    have hs2_ : w'.cell? (ad113.add ((x9_1).toNat * 2)) = some (.int .u64 ((rd_T52 l2 x9_1).f0)) := ((HB.out.cell (World.block_lt_of_cell? w _ hw114_0)).trans hw114_0)
                    have hs3_ : w'.cell? ⟨(ad113.add ((x9_1).toNat * 2)).block, (ad113.add ((x9_1).toNat * 2)).off + 1, none⟩ = some (.int .u64 ((rd_T52 l2 x9_1).f1)) := ((HB.out.cell (World.block_lt_of_cell? w _ hw114_1)).trans hw114_1)
                    refine value_ (w1 := w') (v := .int .u64 ((rd_T52 l2 x9_1).f1)) (by rfl) rfl ?_ ?_
                    · go_simp
                      (try simp only [i64_w])
                      try rfl
                    refine hK.out _ _ ⟨v111, v116, (by rw [ha.out]; exact putSel_upk 6 hb_ rfl rfl rfl), Q_HB, Q_HO112, fun h0_ => absurd ((hoff 13 (by kernel_rfl)).symm.trans h0_) (by decide)⟩
                  refine steps_cons ?_ ?_
                  · rintro b a w' ⟨v111, v116, ha, Q_HB, Q_HO112, Q_HO117⟩ hb_ hon hoff
                    refine ⟨_, rfl, fun K hK => ?_⟩
                    have e27 : a.tmps[27]? = some (.int .u64 ((rd_T52 l2 x9_1).f0)) := by rw [ha]; exact putSel_on (e := (7, 27, .int .u64 ((rd_T52 l2 x9_1).f0))) 3 rfl rfl (hon 7 (by kernel_rfl)) rfl
                    have e32 : a.tmps[32]? = some (.int .u64 ((rd_T52 l2 x9_1).f1)) := by rw [ha]; exact putSel_on (e := (12, 32, .int .u64 ((rd_T52 l2 x9_1).f1))) 6 rfl rfl (hon 12 (by kernel_rfl)) rfl
                    replace ha := Aside0.mk ha
                    have HB := Aside0.mk Q_HB
                    refine Kd.R_lit_step (Kd.int .u64) _ 31 ?hg (N := 33) ?hd (xs := ([(rd_T52 l2 x9_1).f0, (rd_T52 l2 x9_1).f1] : List Int)) (inner := [.int .u64 ((rd_T52 l2 x9_1).f0), .int .u64 ((rd_T52 l2 x9_1).f1)]) (ok := fun _ => True) (okp := fun _ => True) ?hr ?hp (fun _ hk => hk) trivial (Below.refl _ _) (Nat.le_refl _) (by simp) ?_; (case hd => rfl); (case hg => rfl); (case hr => first | (go_simp; done) | (go_simp; rfl)); (case hp => exact (Reps.one (show Kd.M (Kd.int .u64) _ _ _ ((rd_T52 l2 x9_1).f0) [.int .u64 ((rd_T52 l2 x9_1).f0)] from rfl) (Reps.one (show Kd.M (Kd.int .u64) _ _ _ ((rd_T52 l2 x9_1).f1) [.int .u64 ((rd_T52 l2 x9_1).f1)] from rfl) (Reps.none _ _))))
                    intro v116 w20 ho21 hb hg_ hnew_
                    clear hg_ hnew_
                    (first | rw [← Ny115.out] at ho21 | (simp only [Int.reduceToNat] at ho21; rw [← Ny115.out] at ho21))
                    have n0_ := Aside0.mk (Kd.R_lower ho21 (below_size (by repeat (first | (with_reducible first | exact HB.out | apply below_alloc | apply pw_below_drewN | apply below_drew1) | exact HB.out))))
                    have n1_ := Aside0.mk (below_step (by repeat (first | (with_reducible first | exact HB.out | apply below_alloc | apply pw_below_drewN | apply below_drew1) | exact HB.out)) hb)
                    have z_HO112 := fun (h0_ : b 2 = true) => (show Kd.R (Kd.int .i64) 3 w20 w.heap.size (fun _ => True) v111 y110 from by first | exact (Kd.R_below (by (with_reducible repeat (first | apply Kd.R_alloc | apply Kd.R_drewN | apply Kd.R_drew)); exact (Q_HO112 h0_)) hb) | exact Kd.R_mono (Kd.R_below (by (with_reducible repeat (first | apply Kd.R_alloc | apply Kd.R_drewN | apply Kd.R_drew)); exact (Q_HO112 h0_)) hb) (fun _ h_ => by first | trivial | exact h_ | exact h_.1))
                    clear HB
                    have HO117 := n0_
                    have HB := n1_
                    clear n0_ n1_
                    clear hb ho21
                    refine hK.out _ _ ⟨v111, v116, (by rw [ha.out]; exact putSel_upk 7 hb_ rfl rfl rfl), (by repeat (first | (with_reducible first | exact HB.out | apply below_alloc | apply pw_below_drewN | apply below_drew1) | exact HB.out)), z_HO112, fun _ => (by (with_reducible repeat (first | apply Kd.R_alloc | apply Kd.R_drewN | apply Kd.R_drew)); exact HO117.out)⟩
                  refine steps_cons ?_ ?_
                  · rintro b a w' ⟨v111, v116, ha, Q_HB, Q_HO112, Q_HO117⟩ hb_ hon hoff
                    refine ⟨_, rfl, fun K hK => ?_⟩
                    have e20 : a.tmps[20]? = some (.bool a0) := by rw [ha]; exact (putSel_off rfl).trans rfl
                    have e21 : a.tmps[21]? = some (.bool a1) := by rw [ha]; exact (putSel_off rfl).trans rfl
                    have e22 : a.tmps[22]? = some (v111) := by rw [ha]; exact putSel_on (e := (2, 22, v111)) 0 rfl rfl (hon 2 (by kernel_rfl)) rfl
                    have e33 : a.tmps[33]? = some (v116) := by rw [ha]; exact putSel_on (e := (13, 33, v116)) 7 rfl rfl (hon 13 (by kernel_rfl)) rfl
                    replace ha := Aside0.mk ha
                    have HB := Aside0.mk Q_HB
                    have HO112 := Aside0.mk (Q_HO112 (hon 2 (by kernel_rfl)))
                    have HO117 := Aside0.mk (Q_HO117 (hon 13 (by kernel_rfl)))
                    obtain ⟨Ao25, co25, eo25⟩ := Kd.R_slice HO112.out
                    (first | subst eo25 | (injection eo25 with f1_ f2_ f3_; have f4_ := f1_.symm; have f5_ := f3_.symm; clear f1_ f2_ f3_; subst f4_; subst f5_))
                    obtain ⟨Ao26, co26, eo26⟩ := Kd.R_slice HO117.out
                    (first | subst eo26 | (injection eo26 with f1_ f2_ f3_; have f4_ := f1_.symm; have f5_ := f3_.symm; clear f1_ f2_ f3_; subst f4_; subst f5_))
                    refine goes_ Tryd.func31 (by kernel_rfl) rfl #[.bool a0, .bool a1, .slice Ao25 y110.length co25, .slice Ao26 y115.length co26] (by rfl) rfl rfl (by first | (simp only [List.map_toArray, List.map_cons, List.map_nil, Act.eval, Array.getD_eq_getD_getElem?, Option.getD_some, e20, e21, e22, e33]; done) | (simp only [List.map_toArray, List.map_cons, List.map_nil, Act.eval, Array.getD_eq_getD_getElem?, Option.getD_some, e20, e21, e22, e33]; rfl)) ?_
                    with_reducible refine (graverref04_Record.calls k1 a0 a1 _ _ y110 _ _ y115 t118 true _ ?side1 ?side2 ?side3 ?side4 A6.out).mono ?_
                    (case side1 => repeat (first | exact (Kd.R_reads' HO112.out).2.2 | (with_reducible refine Kd.C_alloc ?_ _) | (with_reducible refine Kd.C_drewN ?_ _) | (with_reducible refine Kd.C_drew ?_)))
                    (case side2 => exact (Kd.R_reads' HO112.out).2.1)
                    (case side3 => repeat (first | exact (Kd.R_reads' HO117.out).2.2 | (with_reducible refine Kd.C_alloc ?_ _) | (with_reducible refine Kd.C_drewN ?_ _) | (with_reducible refine Kd.C_drew ?_)))
                    (case side4 => exact (Kd.R_reads' HO117.out).2.1)
                    rintro e w27 ⟨rfl, hb⟩
                    refine ⟨_, rfl, ?_⟩
                    have n0_ := Aside0.mk (Kd.R_below (by (with_reducible repeat (first | apply Kd.R_alloc | apply Kd.R_drewN | apply Kd.R_drew)); exact HO112.out) hb)
                    have n1_ := Aside0.mk (Kd.R_below (by (with_reducible repeat (first | apply Kd.R_alloc | apply Kd.R_drewN | apply Kd.R_drew)); exact HO117.out) hb)
                    have n2_ := Aside0.mk (below_step (by repeat (first | (with_reducible first | exact HB.out | apply below_alloc | apply pw_below_drewN | apply below_drew1) | exact HB.out)) hb)
                    clear HO112
                    clear HO117
                    clear HB
                    have HO112 := n0_
                    have HO117 := n1_
                    have HB := n2_
                    clear n0_ n1_ n2_
                    (try clear hb)
                    (try clear hb2)
                    (try clear hk)
                    (try clear hi)
                    refine hK.out _ _ ⟨.slice Ao25 y110.length co25, .slice Ao26 y115.length co26, (by rw [ha.out]; exact putSel_upk 8 hb_ rfl rfl rfl), (by repeat (first | (with_reducible first | exact HB.out | apply below_alloc | apply pw_below_drewN | apply below_drew1) | exact HB.out)), fun _ => (by (with_reducible repeat (first | apply Kd.R_alloc | apply Kd.R_drewN | apply Kd.R_drew)); exact HO112.out), fun _ => (by (with_reducible repeat (first | apply Kd.R_alloc | apply Kd.R_drewN | apply Kd.R_drew)); exact HO117.out)⟩
                  refine steps_cons ?_ ?_
                  · rintro b a w' ⟨v111, v116, ha, Q_HB, Q_HO112, Q_HO117⟩ hb_ hon hoff
                    refine ⟨_, rfl, fun K hK => ?_⟩
                    have e34 : a.tmps[34]? = some (.tuple #[.string t118, .bool true]) := by rw [ha]; exact putSel_on (e := (14, 34, .tuple #[.string t118, .bool true])) 8 rfl rfl (hon 14 (by kernel_rfl)) rfl
                    replace ha := Aside0.mk ha
                    have HB := Aside0.mk Q_HB
                    have HO112 := Aside0.mk (Q_HO112 (hon 2 (by kernel_rfl)))
                    have HO117 := Aside0.mk (Q_HO117 (hon 13 (by kernel_rfl)))
                    refine value_ (w1 := w') (v := .tuple #[.string t118, .bool true]) (by rfl) rfl ?_ ?_
                    · go_simp
                      (try simp only [i64_w])
                      try rfl
                    refine hK.out _ _ ⟨v111, v116, (by rw [ha.out]; exact putSel_upk 9 hb_ rfl rfl rfl), Q_HB, Q_HO112, Q_HO117⟩
                  refine steps_cons ?_ ?_
                  · rintro b a w' ⟨v111, v116, ha, Q_HB, Q_HO112, Q_HO117⟩ hb_ hon hoff
                    refine ⟨_, rfl, fun K hK => ?_⟩
                    have e19 : a.tmps[19]? = some (.tuple #[.string t118, .bool true]) := by rw [ha]; exact putSel_on (e := (15, 19, .tuple #[.string t118, .bool true])) 9 rfl rfl (hon 15 (by kernel_rfl)) rfl
                    replace ha := Aside0.mk ha
                    have HB := Aside0.mk Q_HB
                    have HO112 := Aside0.mk (Q_HO112 (hon 2 (by kernel_rfl)))
                    have HO117 := Aside0.mk (Q_HO117 (hon 13 (by kernel_rfl)))
                    refine value_ (w1 := w') (v := .string t118) (by rfl) rfl ?_ ?_
                    · go_simp
                      (try simp only [i64_w])
                      try rfl
                    refine hK.out _ _ ⟨v111, v116, (by rw [ha.out]; exact putSel_upk 10 hb_ rfl rfl rfl), Q_HB, Q_HO112, Q_HO117⟩
                  refine steps_cons ?_ ?_
                  · rintro b a w' ⟨v111, v116, ha, Q_HB, Q_HO112, Q_HO117⟩ hb_ hon hoff
                    refine ⟨_, rfl, fun K hK => ?_⟩
                    have e19 : a.tmps[19]? = some (.tuple #[.string t118, .bool true]) := by rw [ha]; exact putSel_on (e := (15, 19, .tuple #[.string t118, .bool true])) 9 rfl rfl (hon 15 (by kernel_rfl)) rfl
                    replace ha := Aside0.mk ha
                    have HB := Aside0.mk Q_HB
                    have HO112 := Aside0.mk (Q_HO112 (hon 2 (by kernel_rfl)))
                    have HO117 := Aside0.mk (Q_HO117 (hon 13 (by kernel_rfl)))
                    refine value_ (w1 := w') (v := .bool true) (by rfl) rfl ?_ ?_
                    · go_simp
                      (try simp only [i64_w])
                      try rfl
                    refine hK.out _ _ ⟨v111, v116, (by rw [ha.out]; exact putSel_upk 11 hb_ rfl rfl rfl), Q_HB, Q_HO112, Q_HO117⟩
                  refine steps_cons ?_ ?_
                  · rintro b a w' ⟨v111, v116, ha, Q_HB, Q_HO112, Q_HO117⟩ hb_ hon hoff
                    refine ⟨_, rfl, fun K hK => ?_⟩
                    have e35 : a.tmps[35]? = some (.string t118) := by rw [ha]; exact putSel_on (e := (16, 35, .string t118)) 10 rfl rfl (hon 16 (by kernel_rfl)) rfl
                    replace ha := Aside0.mk ha
                    have HB := Aside0.mk Q_HB
                    have HO112 := Aside0.mk (Q_HO112 (hon 2 (by kernel_rfl)))
                    have HO117 := Aside0.mk (Q_HO117 (hon 13 (by kernel_rfl)))
                    refine value_ (w1 := w') (v := .string t118) (by rfl) rfl ?_ ?_
                    · go_simp
                      (try simp only [i64_w])
                      try rfl
                    refine hK.out _ _ ⟨v111, v116, (by rw [ha.out]; exact putSel_upk 12 hb_ rfl rfl rfl), Q_HB, Q_HO112, Q_HO117⟩
                  refine steps_cons ?_ ?_
                  · rintro b a w' ⟨v111, v116, ha, Q_HB, Q_HO112, Q_HO117⟩ hb_ hon hoff
                    refine ⟨_, rfl, fun K hK => ?_⟩
                    have e36 : a.tmps[36]? = some (.bool true) := by rw [ha]; exact putSel_on (e := (17, 36, .bool true)) 11 rfl rfl (hon 17 (by kernel_rfl)) rfl
                    replace ha := Aside0.mk ha
                    have HB := Aside0.mk Q_HB
                    have HO112 := Aside0.mk (Q_HO112 (hon 2 (by kernel_rfl)))
                    have HO117 := Aside0.mk (Q_HO117 (hon 13 (by kernel_rfl)))
                    refine value_ (w1 := w') (v := .bool true) (by rfl) rfl ?_ ?_
                    · go_simp
                      (try simp only [i64_w])
                      try rfl
                    refine hK.out _ _ ⟨v111, v116, (by rw [ha.out]; exact putSel_upk 13 hb_ rfl rfl rfl), Q_HB, Q_HO112, Q_HO117⟩
                  exact steps_nil
                rintro b a w27 hall ⟨v111, v116, ha, Q_HB, Q_HO112, Q_HO117⟩
                clear HB
                have hb2_ := hall 2 (by kernel_rfl)
                have hb5_ := hall 5 (by kernel_rfl)
                have hb6_ := hall 6 (by kernel_rfl)
                have hb7_ := hall 7 (by kernel_rfl)
                have hb10_ := hall 10 (by kernel_rfl)
                have hb11_ := hall 11 (by kernel_rfl)
                have hb12_ := hall 12 (by kernel_rfl)
                have hb13_ := hall 13 (by kernel_rfl)
                have hb14_ := hall 14 (by kernel_rfl)
                have hb15_ := hall 15 (by kernel_rfl)
                have hb16_ := hall 16 (by kernel_rfl)
                have hb17_ := hall 17 (by kernel_rfl)
                have hb18_ := hall 18 (by kernel_rfl)
                have hb19_ := hall 19 (by kernel_rfl)
                subst ha
                simp only [putSel, hb2_, hb5_, hb6_, hb7_, hb10_, hb11_, hb12_, hb13_, hb14_, hb15_, hb16_, hb17_, hb18_, hb19_, if_true, Act.put, List.setIfInBounds_toArray, List.set_cons_zero, List.set_cons_succ]
                have HB := Aside0.mk Q_HB
                clear Q_HB
                have HO112 := Aside0.mk (Q_HO112 hb2_)
                clear Q_HO112
                have HO117 := Aside0.mk (Q_HO117 hb13_)
                clear Q_HO117
                clear hall hb2_ hb5_ hb6_ hb7_ hb10_ hb11_ hb12_ hb13_ hb14_ hb15_ hb16_ hb17_ hb18_ hb19_
                have p120 : 0 ≤ (x9_1 : Int) := of_decide_eq_true (by first | (with_reducible assumption) | assumption)
                have q120 : x9_1 < (l2.length : Int) := of_decide_eq_true (by first | (with_reducible assumption) | assumption)
                obtain ⟨ad120, e120, hx120_0, hx120_1⟩ := at_T52 HR2.out x9_1 p120 q120
                obtain rfl : ad113 = ad120 := (by injection e120)
                replace hx120_0 := (HB.out.cell (World.block_lt_of_cell? w _ hx120_0)).trans hx120_0
                replace hx120_1 := (HB.out.cell (World.block_lt_of_cell? w _ hx120_1)).trans hx120_1
                replace p120 := eq_true p120
                replace q120 := eq_true q120
                try go_wp2
                go_roundg k1
                case measure => have := HK1.out; omega
                case rel => exact ⟨(x8_1 ++ t118), (wrap64 (x9_1 + 1)), (by first | rfl | (simp; done) | (simp [*]; done)), (by first | rfl | (simp; done) | (simp [*]; done)), H', ⟨by have := HK1.out; omega⟩, ⟨by repeat (first | (with_reducible first | exact HB.out | apply below_alloc | apply pw_below_drewN | apply below_drew1) | exact HB.out)⟩⟩
              · rw [if_neg c18] at H
                exact absurd H (by simp)
          · replace c7 := Bool.eq_false_iff.mpr c7
            subst c7
            have H1 : (some ((⟨#[]⟩ : ByteArray), false)) = some (r1, r2) := by rw [if_neg (show ¬ (false = true) by decide)] at H; exact H
            clear H
            have H := H1
            clear H1
            simp only [Option.some.injEq, Prod.mk.injEq] at H
            obtain ⟨rfl, rfl⟩ := H
            try go_wp2
            have n0_ := Aside0.mk (below_drew1 HB.out)
            clear HB
            have HB := n0_
            clear n0_
            have p113 : 0 ≤ (x9_1 : Int) := of_decide_eq_true (by first | (with_reducible assumption) | assumption)
            have q113 : x9_1 < (l2.length : Int) := of_decide_eq_true (by first | (with_reducible assumption) | assumption)
            obtain ⟨ad113, e113, hx113_0, hx113_1⟩ := at_T52 HR2.out x9_1 p113 q113
            have hw113_1 := hx113_1
            have hw113_0 := hx113_0
            cases e113
            replace hx113_0 := (HB.out.cell (World.block_lt_of_cell? w _ hx113_0)).trans hx113_0
            replace hx113_1 := (HB.out.cell (World.block_lt_of_cell? w _ hx113_1)).trans hx113_1
            replace p113 := eq_true p113
            replace q113 := eq_true q113
            have p114 : 0 ≤ (x9_1 : Int) := of_decide_eq_true (by first | (with_reducible assumption) | assumption)
            have q114 : x9_1 < (l2.length : Int) := of_decide_eq_true (by first | (with_reducible assumption) | assumption)
            obtain ⟨ad114, e114, hx114_0, hx114_1⟩ := at_T52 HR2.out x9_1 p114 q114
            have hw114_1 := hx114_1
            have hw114_0 := hx114_0
            obtain rfl : ad113 = ad114 := (by injection e114)
            replace hx114_0 := (HB.out.cell (World.block_lt_of_cell? w _ hx114_0)).trans hx114_0
            replace hx114_1 := (HB.out.cell (World.block_lt_of_cell? w _ hx114_1)).trans hx114_1
            replace p114 := eq_true p114
            replace q114 := eq_true q114
            refine start_ (n := 20) (S := fun w' => True) (ds := []) #[false, false, false, false, false, false, false, false, false, false, false, false, false, false, false, false, false, false, false, false] (by kernel_rfl) rfl rfl trivial (fun hHeld => ?_); refine with_tabW graverref10_PutDynamic.tab5 graverref10_PutDynamic.bits5 (fun HT_ HW_ => ?_)
            generalize wr.drew = w28 at HB hx113_0 hx113_1 hx114_0 hx114_1 hHeld ⊢
            refine pure_ (i := 0) (N := some 20) (v := ?_) (a' := ?_) #[true, false, false, false, false, false, false, false, false, false, false, false, false, false, false, false, false, false, false, false] rfl rfl (any_of HT_.out (by kernel_rfl)) (fun _ _ _ h => h) (Or.inl ⟨by rfl, ?_⟩) ?_ ?_
            rotate_left
            · intro w'
              go_simp
              with_reducible rfl
            rotate_left
            · simp only [Act.put, List.setIfInBounds_toArray, List.set_cons_zero, List.set_cons_succ, i64_w, i32_w]
              rfl
            refine pure_ (i := 1) (N := some 21) (v := ?_) (a' := ?_) #[true, true, false, false, false, false, false, false, false, false, false, false, false, false, false, false, false, false, false, false] rfl rfl (any_of HT_.out (by kernel_rfl)) (fun _ _ _ h => h) (Or.inl ⟨by rfl, ?_⟩) ?_ ?_
            rotate_left
            · intro w'
              go_simp
              with_reducible rfl
            rotate_left
            · simp only [Act.put, List.setIfInBounds_toArray, List.set_cons_zero, List.set_cons_succ, i64_w, i32_w]
              rfl
            refine pure_ (i := 3) (N := some 23) (v := ?_) (a' := ?_) #[true, true, false, true, false, false, false, false, false, false, false, false, false, false, false, false, false, false, false, false] rfl rfl (any_of HT_.out (by kernel_rfl)) (fun _ _ _ h => h) (Or.inl ⟨by rfl, ?_⟩) ?_ ?_
            rotate_left
            · intro w'
              go_simp
              with_reducible rfl
            rotate_left
            · simp only [Act.put, List.setIfInBounds_toArray, List.set_cons_zero, List.set_cons_succ, i64_w, i32_w]
              rfl
            refine pure_ (i := 4) (N := some 24) (v := ?_) (a' := ?_) #[true, true, false, true, true, false, false, false, false, false, false, false, false, false, false, false, false, false, false, false] rfl rfl (any_of HT_.out (by kernel_rfl)) (fun _ _ _ h => h) (Or.inl ⟨by rfl, ?_⟩) ?_ ?_
            rotate_left
            · intro w'
              go_simp
              with_reducible rfl
            rotate_left
            · simp only [Act.put, List.setIfInBounds_toArray, List.set_cons_zero, List.set_cons_succ, i64_w, i32_w]
              rfl
            refine pure_ (i := 8) (N := some 28) (v := ?_) (a' := ?_) #[true, true, false, true, true, false, false, false, true, false, false, false, false, false, false, false, false, false, false, false] rfl rfl (any_of HT_.out (by kernel_rfl)) (fun _ _ _ h => h) (Or.inl ⟨by rfl, ?_⟩) ?_ ?_
            rotate_left
            · intro w'
              go_simp
              with_reducible rfl
            rotate_left
            · simp only [Act.put, List.setIfInBounds_toArray, List.set_cons_zero, List.set_cons_succ, i64_w, i32_w]
              rfl
            refine pure_ (i := 9) (N := some 29) (v := ?_) (a' := ?_) #[true, true, false, true, true, false, false, false, true, true, false, false, false, false, false, false, false, false, false, false] rfl rfl (any_of HT_.out (by kernel_rfl)) (fun _ _ _ h => h) (Or.inl ⟨by rfl, ?_⟩) ?_ ?_
            rotate_left
            · intro w'
              go_simp
              with_reducible rfl
            rotate_left
            · simp only [Act.put, List.setIfInBounds_toArray, List.set_cons_zero, List.set_cons_succ, i64_w, i32_w]
              rfl
            refine inv_at [2, 5, 6, 7, 10, 11, 12, 13, 14, 15, 16, 17, 18, 19] (fun a0_ b a w' => ∃ (v111 : Value) (v116 : Value), a = putSel a0_ b [(2, 22, v111), (5, 25, .pointer (some (ad113.add ((x9_1).toNat * 2)))), (6, 26, .pointer (some (ad113.add ((x9_1).toNat * 2)))), (7, 27, .int .u64 ((rd_T52 l2 x9_1).f0)), (10, 30, .pointer (some (ad113.add ((x9_1).toNat * 2)))), (11, 31, .pointer (some ⟨(ad113.add ((x9_1).toNat * 2)).block, (ad113.add ((x9_1).toNat * 2)).off + 1, none⟩)), (12, 32, .int .u64 ((rd_T52 l2 x9_1).f1)), (13, 33, v116), (14, 34, .tuple #[.string t118, .bool false]), (15, 19, .tuple #[.string t118, .bool false]), (16, 35, .string t118), (17, 36, .bool false), (18, 10, .string t118), (19, 11, .bool false)] ∧ (Below w.heap.size w w') ∧ (b 2 = true → Kd.R (Kd.int .i64) 3 w' w.heap.size (fun _ => True) v111 y110) ∧ (b 13 = true → Kd.R (Kd.int .u64) 31 w' w.heap.size (fun _ => True) v116 y115)) HT_.out HW_.out (by kernel_rfl) (by kernel_rfl) ?_ ?_ ?_
            · exact ⟨.bool false, .bool false, by simp only [putSel, Bool.false_eq_true, if_false], HB.out, fun h_ => absurd h_ (by decide), fun h_ => absurd h_ (by decide)⟩
            · skip
              clear HB
              refine steps_cons ?_ ?_
              · rintro b a w' ⟨v111, v116, ha, Q_HB, Q_HO112, Q_HO117⟩ hb_ hon hoff
                refine ⟨_, rfl, fun K hK => ?_⟩
                replace ha := Aside0.mk ha
                have HB := Aside0.mk Q_HB
                refine Kd.R_lit_step (Kd.int .i64) _ 3 ?hg (N := 22) ?hd (xs := ([0, 0] : List Int)) (inner := [.int .i64 0, .int .i64 0]) (ok := fun _ => True) (okp := fun _ => True) ?hr ?hp (fun _ hk => hk) trivial (Below.refl _ _) (Nat.le_refl _) (by simp) ?_; (case hd => rfl); (case hg => rfl); (case hr => first | (go_simp; done) | (go_simp; rfl)); (case hp => exact (Reps.one (show Kd.M (Kd.int .i64) _ _ _ 0 [.int .i64 0] from rfl) (Reps.one (show Kd.M (Kd.int .i64) _ _ _ 0 [.int .i64 0] from rfl) (Reps.none _ _))))
                intro v111 w29 ho30 hb hg_ hnew_
                clear hg_ hnew_
                (first | rw [← Ny110.out] at ho30 | (simp only [Int.reduceToNat] at ho30; rw [← Ny110.out] at ho30))
                have n0_ := Aside0.mk (Kd.R_lower ho30 (below_size (by repeat (first | (with_reducible first | exact HB.out | apply below_alloc | apply pw_below_drewN | apply below_drew1) | exact HB.out))))
                have n1_ := Aside0.mk (below_step (by repeat (first | (with_reducible first | exact HB.out | apply below_alloc | apply pw_below_drewN | apply below_drew1) | exact HB.out)) hb)
                have z_HO117 := fun (h0_ : b 13 = true) => (show Kd.R (Kd.int .u64) 31 w29 w.heap.size (fun _ => True) v116 y115 from by first | exact (Kd.R_below (by (with_reducible repeat (first | apply Kd.R_alloc | apply Kd.R_drewN | apply Kd.R_drew)); exact (Q_HO117 h0_)) hb) | exact Kd.R_mono (Kd.R_below (by (with_reducible repeat (first | apply Kd.R_alloc | apply Kd.R_drewN | apply Kd.R_drew)); exact (Q_HO117 h0_)) hb) (fun _ h_ => by first | trivial | exact h_ | exact h_.1))
                clear HB
                have HO112 := n0_
                have HB := n1_
                clear n0_ n1_
                clear hb ho30
                refine hK.out _ _ ⟨v111, v116, (by rw [ha.out]; exact putSel_upk 0 hb_ rfl rfl rfl), (by repeat (first | (with_reducible first | exact HB.out | apply below_alloc | apply pw_below_drewN | apply below_drew1) | exact HB.out)), fun _ => (by (with_reducible repeat (first | apply Kd.R_alloc | apply Kd.R_drewN | apply Kd.R_drew)); exact HO112.out), z_HO117⟩
              refine steps_cons ?_ ?_
              · rintro b a w' ⟨v111, v116, ha, Q_HB, Q_HO112, Q_HO117⟩ hb_ hon hoff
                refine ⟨_, rfl, fun K hK => ?_⟩
                have e23 : a.tmps[23]? = some (.slice (some ad113) l2.length c2) := by rw [ha]; exact (putSel_off rfl).trans rfl
                have e24 : a.tmps[24]? = some (.int .i64 x9_1) := by rw [ha]; exact (putSel_off rfl).trans rfl
                replace ha := Aside0.mk ha
                have HB := Aside0.mk Q_HB
                have hs0_ : w'.cell? (ad113.add ((x9_1).toNat * 2)) = some (.int .u64 ((rd_T52 l2 x9_1).f0)) := ((HB.out.cell (World.block_lt_of_cell? w _ hw113_0)).trans hw113_0)
                have hs1_ : w'.cell? ⟨(ad113.add ((x9_1).toNat * 2)).block, (ad113.add ((x9_1).toNat * 2)).off + 1, none⟩ = some (.int .u64 ((rd_T52 l2 x9_1).f1)) := ((HB.out.cell (World.block_lt_of_cell? w _ hw113_1)).trans hw113_1)
                refine value_ (w1 := w') (v := .pointer (some (ad113.add ((x9_1).toNat * 2)))) (by rfl) rfl ?_ ?_
                · go_simp
                  (try simp only [i64_w])
                  try rfl
                refine hK.out _ _ ⟨v111, v116, (by rw [ha.out]; exact putSel_upk 1 hb_ rfl rfl rfl), Q_HB, Q_HO112, fun h0_ => absurd ((hoff 13 (by kernel_rfl)).symm.trans h0_) (by decide)⟩
              refine steps_cons ?_ ?_
              · rintro b a w' ⟨v111, v116, ha, Q_HB, Q_HO112, Q_HO117⟩ hb_ hon hoff
                refine ⟨_, rfl, fun K hK => ?_⟩
                have e25 : a.tmps[25]? = some (.pointer (some (ad113.add ((x9_1).toNat * 2)))) := by rw [ha]; exact putSel_on (e := (5, 25, .pointer (some (ad113.add ((x9_1).toNat * 2))))) 1 rfl rfl (hon 5 (by kernel_rfl)) rfl
                replace ha := Aside0.mk ha
                have HB := Aside0.mk Q_HB
                refine value_ (w1 := w') (v := .pointer (some (ad113.add ((x9_1).toNat * 2)))) (by rfl) rfl ?_ ?_
                · go_simp
                  (try simp only [i64_w])
                  try rfl
                refine hK.out _ _ ⟨v111, v116, (by rw [ha.out]; exact putSel_upk 2 hb_ rfl rfl rfl), Q_HB, Q_HO112, fun h0_ => absurd ((hoff 13 (by kernel_rfl)).symm.trans h0_) (by decide)⟩
              refine steps_cons ?_ ?_
              · rintro b a w' ⟨v111, v116, ha, Q_HB, Q_HO112, Q_HO117⟩ hb_ hon hoff
                refine ⟨_, rfl, fun K hK => ?_⟩
                have e26 : a.tmps[26]? = some (.pointer (some (ad113.add ((x9_1).toNat * 2)))) := by rw [ha]; exact putSel_on (e := (6, 26, .pointer (some (ad113.add ((x9_1).toNat * 2))))) 2 rfl rfl (hon 6 (by kernel_rfl)) rfl
                replace ha := Aside0.mk ha
                have HB := Aside0.mk Q_HB
                have hs0_ : w'.cell? (ad113.add ((x9_1).toNat * 2)) = some (.int .u64 ((rd_T52 l2 x9_1).f0)) := ((HB.out.cell (World.block_lt_of_cell? w _ hw113_0)).trans hw113_0)
                have hs1_ : w'.cell? ⟨(ad113.add ((x9_1).toNat * 2)).block, (ad113.add ((x9_1).toNat * 2)).off + 1, none⟩ = some (.int .u64 ((rd_T52 l2 x9_1).f1)) := ((HB.out.cell (World.block_lt_of_cell? w _ hw113_1)).trans hw113_1)
                refine value_ (w1 := w') (v := .int .u64 ((rd_T52 l2 x9_1).f0)) (by rfl) rfl ?_ ?_
                · go_simp
                  (try simp only [i64_w])
                  try rfl
                refine hK.out _ _ ⟨v111, v116, (by rw [ha.out]; exact putSel_upk 3 hb_ rfl rfl rfl), Q_HB, Q_HO112, fun h0_ => absurd ((hoff 13 (by kernel_rfl)).symm.trans h0_) (by decide)⟩
              refine steps_cons ?_ ?_
              · rintro b a w' ⟨v111, v116, ha, Q_HB, Q_HO112, Q_HO117⟩ hb_ hon hoff
                refine ⟨_, rfl, fun K hK => ?_⟩
                have e28 : a.tmps[28]? = some (.slice (some ad113) l2.length c2) := by rw [ha]; exact (putSel_off rfl).trans rfl
                have e29 : a.tmps[29]? = some (.int .i64 x9_1) := by rw [ha]; exact (putSel_off rfl).trans rfl
                replace ha := Aside0.mk ha
                have HB := Aside0.mk Q_HB
                have hs2_ : w'.cell? (ad113.add ((x9_1).toNat * 2)) = some (.int .u64 ((rd_T52 l2 x9_1).f0)) := ((HB.out.cell (World.block_lt_of_cell? w _ hw114_0)).trans hw114_0)
                have hs3_ : w'.cell? ⟨(ad113.add ((x9_1).toNat * 2)).block, (ad113.add ((x9_1).toNat * 2)).off + 1, none⟩ = some (.int .u64 ((rd_T52 l2 x9_1).f1)) := ((HB.out.cell (World.block_lt_of_cell? w _ hw114_1)).trans hw114_1)
                refine value_ (w1 := w') (v := .pointer (some (ad113.add ((x9_1).toNat * 2)))) (by rfl) rfl ?_ ?_
                · go_simp
                  (try simp only [i64_w])
                  try rfl
                refine hK.out _ _ ⟨v111, v116, (by rw [ha.out]; exact putSel_upk 4 hb_ rfl rfl rfl), Q_HB, Q_HO112, fun h0_ => absurd ((hoff 13 (by kernel_rfl)).symm.trans h0_) (by decide)⟩
              refine steps_cons ?_ ?_
              · rintro b a w' ⟨v111, v116, ha, Q_HB, Q_HO112, Q_HO117⟩ hb_ hon hoff
                refine ⟨_, rfl, fun K hK => ?_⟩
                have e30 : a.tmps[30]? = some (.pointer (some (ad113.add ((x9_1).toNat * 2)))) := by rw [ha]; exact putSel_on (e := (10, 30, .pointer (some (ad113.add ((x9_1).toNat * 2))))) 4 rfl rfl (hon 10 (by kernel_rfl)) rfl
                replace ha := Aside0.mk ha
                have HB := Aside0.mk Q_HB
                refine value_ (w1 := w') (v := .pointer (some ⟨(ad113.add ((x9_1).toNat * 2)).block, (ad113.add ((x9_1).toNat * 2)).off + 1, none⟩)) (by rfl) rfl ?_ ?_
                · go_simp
                  (try simp only [i64_w])
                  try rfl
                refine hK.out _ _ ⟨v111, v116, (by rw [ha.out]; exact putSel_upk 5 hb_ rfl rfl rfl), Q_HB, Q_HO112, fun h0_ => absurd ((hoff 13 (by kernel_rfl)).symm.trans h0_) (by decide)⟩
              refine steps_cons ?_ ?_
              · rintro b a w' ⟨v111, v116, ha, Q_HB, Q_HO112, Q_HO117⟩ hb_ hon hoff
                refine ⟨_, rfl, fun K hK => ?_⟩
                have e31 : a.tmps[31]? = some (.pointer (some ⟨(ad113.add ((x9_1).toNat * 2)).block, (ad113.add ((x9_1).toNat * 2)).off + 1, none⟩)) := by rw [ha]; exact putSel_on (e := (11, 31, .pointer (some ⟨(ad113.add ((x9_1).toNat * 2)).block, (ad113.add ((x9_1).toNat * 2)).off + 1, none⟩))) 5 rfl rfl (hon 11 (by kernel_rfl)) rfl
                replace ha := Aside0.mk ha
                have HB := Aside0.mk Q_HB
                have hs2_ : w'.cell? (ad113.add ((x9_1).toNat * 2)) = some (.int .u64 ((rd_T52 l2 x9_1).f0)) := ((HB.out.cell (World.block_lt_of_cell? w _ hw114_0)).trans hw114_0)
                have hs3_ : w'.cell? ⟨(ad113.add ((x9_1).toNat * 2)).block, (ad113.add ((x9_1).toNat * 2)).off + 1, none⟩ = some (.int .u64 ((rd_T52 l2 x9_1).f1)) := ((HB.out.cell (World.block_lt_of_cell? w _ hw114_1)).trans hw114_1)
                refine value_ (w1 := w') (v := .int .u64 ((rd_T52 l2 x9_1).f1)) (by rfl) rfl ?_ ?_
                · go_simp
                  (try simp only [i64_w])
                  try rfl
                refine hK.out _ _ ⟨v111, v116, (by rw [ha.out]; exact putSel_upk 6 hb_ rfl rfl rfl), Q_HB, Q_HO112, fun h0_ => absurd ((hoff 13 (by kernel_rfl)).symm.trans h0_) (by decide)⟩
              refine steps_cons ?_ ?_
              · rintro b a w' ⟨v111, v116, ha, Q_HB, Q_HO112, Q_HO117⟩ hb_ hon hoff
                refine ⟨_, rfl, fun K hK => ?_⟩
                have e27 : a.tmps[27]? = some (.int .u64 ((rd_T52 l2 x9_1).f0)) := by rw [ha]; exact putSel_on (e := (7, 27, .int .u64 ((rd_T52 l2 x9_1).f0))) 3 rfl rfl (hon 7 (by kernel_rfl)) rfl
                have e32 : a.tmps[32]? = some (.int .u64 ((rd_T52 l2 x9_1).f1)) := by rw [ha]; exact putSel_on (e := (12, 32, .int .u64 ((rd_T52 l2 x9_1).f1))) 6 rfl rfl (hon 12 (by kernel_rfl)) rfl
                replace ha := Aside0.mk ha
                have HB := Aside0.mk Q_HB
                refine Kd.R_lit_step (Kd.int .u64) _ 31 ?hg (N := 33) ?hd (xs := ([(rd_T52 l2 x9_1).f0, (rd_T52 l2 x9_1).f1] : List Int)) (inner := [.int .u64 ((rd_T52 l2 x9_1).f0), .int .u64 ((rd_T52 l2 x9_1).f1)]) (ok := fun _ => True) (okp := fun _ => True) ?hr ?hp (fun _ hk => hk) trivial (Below.refl _ _) (Nat.le_refl _) (by simp) ?_; (case hd => rfl); (case hg => rfl); (case hr => first | (go_simp; done) | (go_simp; rfl)); (case hp => exact (Reps.one (show Kd.M (Kd.int .u64) _ _ _ ((rd_T52 l2 x9_1).f0) [.int .u64 ((rd_T52 l2 x9_1).f0)] from rfl) (Reps.one (show Kd.M (Kd.int .u64) _ _ _ ((rd_T52 l2 x9_1).f1) [.int .u64 ((rd_T52 l2 x9_1).f1)] from rfl) (Reps.none _ _))))
                intro v116 w29 ho30 hb hg_ hnew_
                clear hg_ hnew_
                (first | rw [← Ny115.out] at ho30 | (simp only [Int.reduceToNat] at ho30; rw [← Ny115.out] at ho30))
                have n0_ := Aside0.mk (Kd.R_lower ho30 (below_size (by repeat (first | (with_reducible first | exact HB.out | apply below_alloc | apply pw_below_drewN | apply below_drew1) | exact HB.out))))
                have n1_ := Aside0.mk (below_step (by repeat (first | (with_reducible first | exact HB.out | apply below_alloc | apply pw_below_drewN | apply below_drew1) | exact HB.out)) hb)
                have z_HO112 := fun (h0_ : b 2 = true) => (show Kd.R (Kd.int .i64) 3 w29 w.heap.size (fun _ => True) v111 y110 from by first | exact (Kd.R_below (by (with_reducible repeat (first | apply Kd.R_alloc | apply Kd.R_drewN | apply Kd.R_drew)); exact (Q_HO112 h0_)) hb) | exact Kd.R_mono (Kd.R_below (by (with_reducible repeat (first | apply Kd.R_alloc | apply Kd.R_drewN | apply Kd.R_drew)); exact (Q_HO112 h0_)) hb) (fun _ h_ => by first | trivial | exact h_ | exact h_.1))
                clear HB
                have HO117 := n0_
                have HB := n1_
                clear n0_ n1_
                clear hb ho30
                refine hK.out _ _ ⟨v111, v116, (by rw [ha.out]; exact putSel_upk 7 hb_ rfl rfl rfl), (by repeat (first | (with_reducible first | exact HB.out | apply below_alloc | apply pw_below_drewN | apply below_drew1) | exact HB.out)), z_HO112, fun _ => (by (with_reducible repeat (first | apply Kd.R_alloc | apply Kd.R_drewN | apply Kd.R_drew)); exact HO117.out)⟩
              refine steps_cons ?_ ?_
              · rintro b a w' ⟨v111, v116, ha, Q_HB, Q_HO112, Q_HO117⟩ hb_ hon hoff
                refine ⟨_, rfl, fun K hK => ?_⟩
                have e20 : a.tmps[20]? = some (.bool a0) := by rw [ha]; exact (putSel_off rfl).trans rfl
                have e21 : a.tmps[21]? = some (.bool a1) := by rw [ha]; exact (putSel_off rfl).trans rfl
                have e22 : a.tmps[22]? = some (v111) := by rw [ha]; exact putSel_on (e := (2, 22, v111)) 0 rfl rfl (hon 2 (by kernel_rfl)) rfl
                have e33 : a.tmps[33]? = some (v116) := by rw [ha]; exact putSel_on (e := (13, 33, v116)) 7 rfl rfl (hon 13 (by kernel_rfl)) rfl
                replace ha := Aside0.mk ha
                have HB := Aside0.mk Q_HB
                have HO112 := Aside0.mk (Q_HO112 (hon 2 (by kernel_rfl)))
                have HO117 := Aside0.mk (Q_HO117 (hon 13 (by kernel_rfl)))
                obtain ⟨Ao34, co34, eo34⟩ := Kd.R_slice HO112.out
                (first | subst eo34 | (injection eo34 with f1_ f2_ f3_; have f4_ := f1_.symm; have f5_ := f3_.symm; clear f1_ f2_ f3_; subst f4_; subst f5_))
                obtain ⟨Ao35, co35, eo35⟩ := Kd.R_slice HO117.out
                (first | subst eo35 | (injection eo35 with f1_ f2_ f3_; have f4_ := f1_.symm; have f5_ := f3_.symm; clear f1_ f2_ f3_; subst f4_; subst f5_))
                refine goes_ Tryd.func31 (by kernel_rfl) rfl #[.bool a0, .bool a1, .slice Ao34 y110.length co34, .slice Ao35 y115.length co35] (by rfl) rfl rfl (by first | (simp only [List.map_toArray, List.map_cons, List.map_nil, Act.eval, Array.getD_eq_getD_getElem?, Option.getD_some, e20, e21, e22, e33]; done) | (simp only [List.map_toArray, List.map_cons, List.map_nil, Act.eval, Array.getD_eq_getD_getElem?, Option.getD_some, e20, e21, e22, e33]; rfl)) ?_
                with_reducible refine (graverref04_Record.calls k1 a0 a1 _ _ y110 _ _ y115 t118 false _ ?side1 ?side2 ?side3 ?side4 A6.out).mono ?_
                (case side1 => repeat (first | exact (Kd.R_reads' HO112.out).2.2 | (with_reducible refine Kd.C_alloc ?_ _) | (with_reducible refine Kd.C_drewN ?_ _) | (with_reducible refine Kd.C_drew ?_)))
                (case side2 => exact (Kd.R_reads' HO112.out).2.1)
                (case side3 => repeat (first | exact (Kd.R_reads' HO117.out).2.2 | (with_reducible refine Kd.C_alloc ?_ _) | (with_reducible refine Kd.C_drewN ?_ _) | (with_reducible refine Kd.C_drew ?_)))
                (case side4 => exact (Kd.R_reads' HO117.out).2.1)
                rintro e w36 ⟨rfl, hb⟩
                refine ⟨_, rfl, ?_⟩
                have n0_ := Aside0.mk (Kd.R_below (by (with_reducible repeat (first | apply Kd.R_alloc | apply Kd.R_drewN | apply Kd.R_drew)); exact HO112.out) hb)
                have n1_ := Aside0.mk (Kd.R_below (by (with_reducible repeat (first | apply Kd.R_alloc | apply Kd.R_drewN | apply Kd.R_drew)); exact HO117.out) hb)
                have n2_ := Aside0.mk (below_step (by repeat (first | (with_reducible first | exact HB.out | apply below_alloc | apply pw_below_drewN | apply below_drew1) | exact HB.out)) hb)
                clear HO112
                clear HO117
                clear HB
                have HO112 := n0_
                have HO117 := n1_
                have HB := n2_
                clear n0_ n1_ n2_
                (try clear hb)
                (try clear hb2)
                (try clear hk)
                (try clear hi)
                refine hK.out _ _ ⟨.slice Ao34 y110.length co34, .slice Ao35 y115.length co35, (by rw [ha.out]; exact putSel_upk 8 hb_ rfl rfl rfl), (by repeat (first | (with_reducible first | exact HB.out | apply below_alloc | apply pw_below_drewN | apply below_drew1) | exact HB.out)), fun _ => (by (with_reducible repeat (first | apply Kd.R_alloc | apply Kd.R_drewN | apply Kd.R_drew)); exact HO112.out), fun _ => (by (with_reducible repeat (first | apply Kd.R_alloc | apply Kd.R_drewN | apply Kd.R_drew)); exact HO117.out)⟩
              refine steps_cons ?_ ?_
              · rintro b a w' ⟨v111, v116, ha, Q_HB, Q_HO112, Q_HO117⟩ hb_ hon hoff
                refine ⟨_, rfl, fun K hK => ?_⟩
                have e34 : a.tmps[34]? = some (.tuple #[.string t118, .bool false]) := by rw [ha]; exact putSel_on (e := (14, 34, .tuple #[.string t118, .bool false])) 8 rfl rfl (hon 14 (by kernel_rfl)) rfl
                replace ha := Aside0.mk ha
                have HB := Aside0.mk Q_HB
                have HO112 := Aside0.mk (Q_HO112 (hon 2 (by kernel_rfl)))
                have HO117 := Aside0.mk (Q_HO117 (hon 13 (by kernel_rfl)))
                refine value_ (w1 := w') (v := .tuple #[.string t118, .bool false]) (by rfl) rfl ?_ ?_
                · go_simp
                  (try simp only [i64_w])
                  try rfl
                refine hK.out _ _ ⟨v111, v116, (by rw [ha.out]; exact putSel_upk 9 hb_ rfl rfl rfl), Q_HB, Q_HO112, Q_HO117⟩
              refine steps_cons ?_ ?_
              · rintro b a w' ⟨v111, v116, ha, Q_HB, Q_HO112, Q_HO117⟩ hb_ hon hoff
                refine ⟨_, rfl, fun K hK => ?_⟩
                have e19 : a.tmps[19]? = some (.tuple #[.string t118, .bool false]) := by rw [ha]; exact putSel_on (e := (15, 19, .tuple #[.string t118, .bool false])) 9 rfl rfl (hon 15 (by kernel_rfl)) rfl
                replace ha := Aside0.mk ha
                have HB := Aside0.mk Q_HB
                have HO112 := Aside0.mk (Q_HO112 (hon 2 (by kernel_rfl)))
                have HO117 := Aside0.mk (Q_HO117 (hon 13 (by kernel_rfl)))
                refine value_ (w1 := w') (v := .string t118) (by rfl) rfl ?_ ?_
                · go_simp
                  (try simp only [i64_w])
                  try rfl
                refine hK.out _ _ ⟨v111, v116, (by rw [ha.out]; exact putSel_upk 10 hb_ rfl rfl rfl), Q_HB, Q_HO112, Q_HO117⟩
              refine steps_cons ?_ ?_
              · rintro b a w' ⟨v111, v116, ha, Q_HB, Q_HO112, Q_HO117⟩ hb_ hon hoff
                refine ⟨_, rfl, fun K hK => ?_⟩
                have e19 : a.tmps[19]? = some (.tuple #[.string t118, .bool false]) := by rw [ha]; exact putSel_on (e := (15, 19, .tuple #[.string t118, .bool false])) 9 rfl rfl (hon 15 (by kernel_rfl)) rfl
                replace ha := Aside0.mk ha
                have HB := Aside0.mk Q_HB
                have HO112 := Aside0.mk (Q_HO112 (hon 2 (by kernel_rfl)))
                have HO117 := Aside0.mk (Q_HO117 (hon 13 (by kernel_rfl)))
                refine value_ (w1 := w') (v := .bool false) (by rfl) rfl ?_ ?_
                · go_simp
                  (try simp only [i64_w])
                  try rfl
                refine hK.out _ _ ⟨v111, v116, (by rw [ha.out]; exact putSel_upk 11 hb_ rfl rfl rfl), Q_HB, Q_HO112, Q_HO117⟩
              refine steps_cons ?_ ?_
              · rintro b a w' ⟨v111, v116, ha, Q_HB, Q_HO112, Q_HO117⟩ hb_ hon hoff
                refine ⟨_, rfl, fun K hK => ?_⟩
                have e35 : a.tmps[35]? = some (.string t118) := by rw [ha]; exact putSel_on (e := (16, 35, .string t118)) 10 rfl rfl (hon 16 (by kernel_rfl)) rfl
                replace ha := Aside0.mk ha
                have HB := Aside0.mk Q_HB
                have HO112 := Aside0.mk (Q_HO112 (hon 2 (by kernel_rfl)))
                have HO117 := Aside0.mk (Q_HO117 (hon 13 (by kernel_rfl)))
                refine value_ (w1 := w') (v := .string t118) (by rfl) rfl ?_ ?_
                · go_simp
                  (try simp only [i64_w])
                  try rfl
                refine hK.out _ _ ⟨v111, v116, (by rw [ha.out]; exact putSel_upk 12 hb_ rfl rfl rfl), Q_HB, Q_HO112, Q_HO117⟩
              refine steps_cons ?_ ?_
              · rintro b a w' ⟨v111, v116, ha, Q_HB, Q_HO112, Q_HO117⟩ hb_ hon hoff
                refine ⟨_, rfl, fun K hK => ?_⟩
                have e36 : a.tmps[36]? = some (.bool false) := by rw [ha]; exact putSel_on (e := (17, 36, .bool false)) 11 rfl rfl (hon 17 (by kernel_rfl)) rfl
                replace ha := Aside0.mk ha
                have HB := Aside0.mk Q_HB
                have HO112 := Aside0.mk (Q_HO112 (hon 2 (by kernel_rfl)))
                have HO117 := Aside0.mk (Q_HO117 (hon 13 (by kernel_rfl)))
                refine value_ (w1 := w') (v := .bool false) (by rfl) rfl ?_ ?_
                · go_simp
                  (try simp only [i64_w])
                  try rfl
                refine hK.out _ _ ⟨v111, v116, (by rw [ha.out]; exact putSel_upk 13 hb_ rfl rfl rfl), Q_HB, Q_HO112, Q_HO117⟩
              exact steps_nil
            rintro b a w36 hall ⟨v111, v116, ha, Q_HB, Q_HO112, Q_HO117⟩
            clear HB
            have hb2_ := hall 2 (by kernel_rfl)
            have hb5_ := hall 5 (by kernel_rfl)
            have hb6_ := hall 6 (by kernel_rfl)
            have hb7_ := hall 7 (by kernel_rfl)
            have hb10_ := hall 10 (by kernel_rfl)
            have hb11_ := hall 11 (by kernel_rfl)
            have hb12_ := hall 12 (by kernel_rfl)
            have hb13_ := hall 13 (by kernel_rfl)
            have hb14_ := hall 14 (by kernel_rfl)
            have hb15_ := hall 15 (by kernel_rfl)
            have hb16_ := hall 16 (by kernel_rfl)
            have hb17_ := hall 17 (by kernel_rfl)
            have hb18_ := hall 18 (by kernel_rfl)
            have hb19_ := hall 19 (by kernel_rfl)
            subst ha
            simp only [putSel, hb2_, hb5_, hb6_, hb7_, hb10_, hb11_, hb12_, hb13_, hb14_, hb15_, hb16_, hb17_, hb18_, hb19_, if_true, Act.put, List.setIfInBounds_toArray, List.set_cons_zero, List.set_cons_succ]
            have HB := Aside0.mk Q_HB
            clear Q_HB
            have HO112 := Aside0.mk (Q_HO112 hb2_)
            clear Q_HO112
            have HO117 := Aside0.mk (Q_HO117 hb13_)
            clear Q_HO117
            clear hall hb2_ hb5_ hb6_ hb7_ hb10_ hb11_ hb12_ hb13_ hb14_ hb15_ hb16_ hb17_ hb18_ hb19_
            try go_wp2
            go_ret2
            exact ⟨by first | rfl | (simp [errW_none, errW_some] <;> rfl) | (simp [*, errW_none, errW_some] <;> rfl), by repeat (first | (with_reducible first | exact HB.out | apply below_alloc | apply pw_below_drewN | apply below_drew1) | exact HB.out)⟩
        · rw [if_neg c5] at H
          exact absurd H (by simp)
      · rw [if_neg c4] at H
        have c4b0 : decide (x9_1 < (l2.length : Int)) = false := decide_eq_false c4
        clear c4
        by_cases c37 : a0 = true
        · subst c37
          have H1 : (if 16 ≤ 281474976710656 then ((some (List.replicate 16 0 : List Int)).bind fun y121 => (if x8_1.size + (strOfNums y121).size ≤ 9223372036854775807 then (some (x8_1 ++ (strOfNums y121), true)) else (none))) else (none)) = some (r1, r2) := by rw [if_pos rfl] at H; exact H
          clear H
          have H := H1
          clear H1
          by_cases c38 : 16 ≤ 281474976710656
          · rw [if_pos c38] at H
            have c38b0 := eq_true c38
            have c38b1 : decide (16 ≤ 281474976710656) = true := decide_eq_true c38
            clear c38
            obtain ⟨y121, hy121⟩ : ∃ y_ : List Int, y_ = (List.replicate 16 0) := ⟨_, rfl⟩
            replace H : (if x8_1.size + (strOfNums y121).size ≤ 9223372036854775807 then (some (x8_1 ++ (strOfNums y121), true)) else (none)) = some (r1, r2) := by first | (rw [hy121]; with_reducible exact H) | (have H2_ := (Option.bind_some _ _).symm.trans H; rw [hy121]; with_reducible exact H2_) | (have H2_ := (Option.bind_some _ _).symm.trans H; with_reducible exact H2_) | with_reducible exact H | (rw [hy121]; exact H) | exact H
            have Ny121 := Aside0.mk hy121
            clear hy121
            by_cases c39 : x8_1.size + (strOfNums y121).size ≤ 9223372036854775807
            · rw [if_pos c39] at H
              have c39b0 := eq_true c39
              have c39b1 : decide (x8_1.size + (strOfNums y121).size ≤ 9223372036854775807) = true := decide_eq_true c39
              try have c39b2 : (9223372036854775807 < x8_1.size + (strOfNums y121).size) = False := eq_false (Nat.not_lt.2 c39)
              simp only [Option.some.injEq, Prod.mk.injEq] at H
              obtain ⟨rfl, rfl⟩ := H
              go_wp2_with (first | ((with_reducible refine gate_dst (N := 53) rfl ?_); refine Kd.R_make (Kd.int .u8) _ 5 rfl (N := 53) rfl 44 _ _ rfl 16 rfl rfl Tryd.underlying44 (.int .u8 0) 1 info5 rfl (by decide) (by omega) 0 (ok := fun _ => True) (okp := fun _ => True) rfl (fun _ hk => hk) trivial (by omega) (by omega) (Below.refl _ _) (Nat.le_refl _) ?_; intro v122 w40 ho41 hb hg_ hnew_; clear hg_ hnew_; (first | rw [← Ny121.out] at ho41 | (simp only [Int.reduceToNat] at ho41; rw [← Ny121.out] at ho41)); have n0_ := Aside0.mk (Kd.R_lower ho41 (below_size (by repeat (first | (with_reducible first | exact HB.out | apply below_alloc | apply pw_below_drewN | apply below_drew1) | exact HB.out)))); have n1_ := Aside0.mk (below_step (by repeat (first | (with_reducible first | exact HB.out | apply below_alloc | apply pw_below_drewN | apply below_drew1) | exact HB.out)) hb); clear HB; have HO123 := n0_; have HB := n1_; clear n0_ n1_; clear hb ho41; have hcv42 := own_string (P := Tryd.prog) Tryd.underlying44 Tryd.underlying5 Tryd.underlying9 (Kd.own_of_R HO123.out)))
              go_ret2
              exact ⟨by first | rfl | (simp [errW_none, errW_some] <;> rfl) | (simp [*, errW_none, errW_some] <;> rfl), by repeat (first | (with_reducible first | exact HB.out | apply below_alloc | apply pw_below_drewN | apply below_drew1) | exact HB.out)⟩
            · rw [if_neg c39] at H
              exact absurd H (by simp)
          · rw [if_neg c38] at H
            exact absurd H (by simp)
        · replace c37 := Bool.eq_false_iff.mpr c37
          subst c37
          have H1 : (if 8 ≤ 281474976710656 then ((some (List.replicate 8 0 : List Int)).bind fun y124 => (if x8_1.size + (strOfNums y124).size ≤ 9223372036854775807 then (some (x8_1 ++ (strOfNums y124), true)) else (none))) else (none)) = some (r1, r2) := by rw [if_neg (show ¬ (false = true) by decide)] at H; exact H
          clear H
          have H := H1
          clear H1
          by_cases c43 : 8 ≤ 281474976710656
          · rw [if_pos c43] at H
            have c43b0 := eq_true c43
            have c43b1 : decide (8 ≤ 281474976710656) = true := decide_eq_true c43
            clear c43
            obtain ⟨y124, hy124⟩ : ∃ y_ : List Int, y_ = (List.replicate 8 0) := ⟨_, rfl⟩
            replace H : (if x8_1.size + (strOfNums y124).size ≤ 9223372036854775807 then (some (x8_1 ++ (strOfNums y124), true)) else (none)) = some (r1, r2) := by first | (rw [hy124]; with_reducible exact H) | (have H2_ := (Option.bind_some _ _).symm.trans H; rw [hy124]; with_reducible exact H2_) | (have H2_ := (Option.bind_some _ _).symm.trans H; with_reducible exact H2_) | with_reducible exact H | (rw [hy124]; exact H) | exact H
            have Ny124 := Aside0.mk hy124
            clear hy124
            by_cases c44 : x8_1.size + (strOfNums y124).size ≤ 9223372036854775807
            · rw [if_pos c44] at H
              have c44b0 := eq_true c44
              have c44b1 : decide (x8_1.size + (strOfNums y124).size ≤ 9223372036854775807) = true := decide_eq_true c44
              try have c44b2 : (9223372036854775807 < x8_1.size + (strOfNums y124).size) = False := eq_false (Nat.not_lt.2 c44)
              simp only [Option.some.injEq, Prod.mk.injEq] at H
              obtain ⟨rfl, rfl⟩ := H
              go_wp2_with (first | ((with_reducible refine gate_dst (N := 53) rfl ?_); refine Kd.R_make (Kd.int .u8) _ 5 rfl (N := 53) rfl 44 _ _ rfl 8 rfl rfl Tryd.underlying44 (.int .u8 0) 1 info5 rfl (by decide) (by omega) 0 (ok := fun _ => True) (okp := fun _ => True) rfl (fun _ hk => hk) trivial (by omega) (by omega) (Below.refl _ _) (Nat.le_refl _) ?_; intro v125 w45 ho46 hb hg_ hnew_; clear hg_ hnew_; (first | rw [← Ny124.out] at ho46 | (simp only [Int.reduceToNat] at ho46; rw [← Ny124.out] at ho46)); have n0_ := Aside0.mk (Kd.R_lower ho46 (below_size (by repeat (first | (with_reducible first | exact HB.out | apply below_alloc | apply pw_below_drewN | apply below_drew1) | exact HB.out)))); have n1_ := Aside0.mk (below_step (by repeat (first | (with_reducible first | exact HB.out | apply below_alloc | apply pw_below_drewN | apply below_drew1) | exact HB.out)) hb); clear HB; have HO126 := n0_; have HB := n1_; clear n0_ n1_; clear hb ho46; have hcv47 := own_string (P := Tryd.prog) Tryd.underlying44 Tryd.underlying5 Tryd.underlying9 (Kd.own_of_R HO126.out)))
              go_ret2
              exact ⟨by first | rfl | (simp [errW_none, errW_some] <;> rfl) | (simp [*, errW_none, errW_some] <;> rfl), by repeat (first | (with_reducible first | exact HB.out | apply below_alloc | apply pw_below_drewN | apply below_drew1) | exact HB.out)⟩
            · rw [if_neg c44] at H
              exact absurd H (by simp)
          · rw [if_neg c43] at H
            exact absurd H (by simp)

end Go.Proofs.YtcfbdnlbgcoicaaDoorX.Ent

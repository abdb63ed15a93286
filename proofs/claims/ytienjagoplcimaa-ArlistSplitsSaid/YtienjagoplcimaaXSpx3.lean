-- PRINTED by print.py (a twelfth state) out of the translation. Not trusted: Lean checks it.
import Derived.Test.YtienjagoplcimaaXSpx0
import Derived.Test.YtienjagoplcimaaXSpx1
import Derived.Test.YtienjagoplcimaaXSpx2
namespace Go.Proofs.YtienjagoplcimaaX.Sp
open Go.RowKit Go.Proofs.YtienjagoplcimaaW.PrintWords Go.Proofs.YtienjagoplcimaaW.PrintLast Go.Proofs.YtienjagoplcimaaW.PrintMore
attribute [local go_sem] max2_int min2_int max_two min_two max_three min_three max_four min_four   -- for this text's walks alone
set_option linter.unusedVariables false
set_option linter.unusedSimpArgs false

attribute [local go_sem high] eqA28
/-! ### graverlaw23_ArlistSplits: function 3 -/
mutual
def graverlaw23_ArlistSplits.j1 : Nat → List ByteArray → Int → List (S28) → List (S28) → Option (Bool)
  | 0, _, _, _, _ => none
  | k + 1, x1, x2, x7, x8 => graverlaw23_ArlistSplits.l1 k x1 x2 x7 x8 ([] : List ByteArray) 0
def graverlaw23_ArlistSplits.j4 : Nat → Int → List (S28) → List (S28) → List ByteArray → Option (Bool)
  | 0, _, _, _, _ => none
  | k + 1, x2, x7, x8, x10 => if (wrap64 ((x8.length : Int) + 1)) = 0 then (none) else ((arlist_Replace.f k x7 x8).bind fun bt135 => (if 0 ≤ (Int.tmod (wrap64 ((wrap64 ((Int.tmod x2 (wrap64 ((x8.length : Int) + 1))) + (x8.length : Int))) + 1)) (wrap64 ((x8.length : Int) + 1))) then (if (Int.tmod (wrap64 ((wrap64 ((Int.tmod x2 (wrap64 ((x8.length : Int) + 1))) + (x8.length : Int))) + 1)) (wrap64 ((x8.length : Int) + 1))) ≤ (x8.length : Int) then ((arlist_Replace.f k x7 (x8.take ((Int.tmod (wrap64 ((wrap64 ((Int.tmod x2 (wrap64 ((x8.length : Int) + 1))) + (x8.length : Int))) + 1)) (wrap64 ((x8.length : Int) + 1))) : Int).toNat)).bind fun bt143 => ((arlist_Replace.f k bt143.1 (x8.drop ((Int.tmod (wrap64 ((wrap64 ((Int.tmod x2 (wrap64 ((x8.length : Int) + 1))) + (x8.length : Int))) + 1)) (wrap64 ((x8.length : Int) + 1))) : Int).toNat)).bind fun bt151 => ((arlist_Delete.f x7 x10).bind fun bt155 => (if (Int.tmod (wrap64 ((wrap64 ((Int.tmod x2 (wrap64 ((x8.length : Int) + 1))) + (x8.length : Int))) + 1)) (wrap64 ((x8.length : Int) + 1))) ≤ (x10.length : Int) then ((arlist_Delete.f x7 (x10.take ((Int.tmod (wrap64 ((wrap64 ((Int.tmod x2 (wrap64 ((x8.length : Int) + 1))) + (x8.length : Int))) + 1)) (wrap64 ((x8.length : Int) + 1))) : Int).toNat)).bind fun bt163 => (if bt163.2 = 0 then ((arlist_Delete.f bt163.1 (x10.drop ((Int.tmod (wrap64 ((wrap64 ((Int.tmod x2 (wrap64 ((x8.length : Int) + 1))) + (x8.length : Int))) + 1)) (wrap64 ((x8.length : Int) + 1))) : Int).toNat)).bind fun bt171 => (graverlaw23_ArlistSplits.j5 k bt135.1 bt135.2 bt151.1 bt151.2 bt155.1 bt155.2 bt171.1 bt171.2)) else (graverlaw23_ArlistSplits.j5 k bt135.1 bt135.2 bt151.1 bt151.2 bt155.1 bt155.2 bt163.1 bt163.2))) else (none))))) else (none)) else (none)))
def graverlaw23_ArlistSplits.j5 : Nat → List (S28) → Int → List (S28) → Int → List (S28) → Int → List (S28) → Int → Option (Bool)
  | 0, _, _, _, _, _, _, _, _ => none
  | k + 1, x15, x16, x19, x20, x21, x22, x23, x24 => if x16 = 0 then (if x20 = 0 then (if x22 = x24 then (if (x15.length : Int) = (x19.length : Int) then (if x22 = 0 then (graverlaw23_ArlistSplits.j6 k x15 x19 x21 x22 x23 ((x21.length : Int) != (x23.length : Int))) else (graverlaw23_ArlistSplits.j6 k x15 x19 x21 x22 x23 false)) else (graverlaw23_ArlistSplits.j6 k x15 x19 x21 x22 x23 true)) else (graverlaw23_ArlistSplits.j6 k x15 x19 x21 x22 x23 true)) else (graverlaw23_ArlistSplits.j6 k x15 x19 x21 x22 x23 true)) else (graverlaw23_ArlistSplits.j6 k x15 x19 x21 x22 x23 true)
def graverlaw23_ArlistSplits.j6 : Nat → List (S28) → List (S28) → List (S28) → Int → List (S28) → Bool → Option (Bool)
  | 0, _, _, _, _, _, _ => none
  | k + 1, x15, x19, x21, x22, x23, x191 => if x191 = true then (some false) else (graverlaw23_ArlistSplits.l3 k x15 x19 x21 x22 x23 0)
def graverlaw23_ArlistSplits.l3 : Nat → List (S28) → List (S28) → List (S28) → Int → List (S28) → Int → Option (Bool)
  | 0, _, _, _, _, _, _ => none
  | k + 1, x15, x19, x21, x22, x23, x25 => if x25 < (x15.length : Int) then (if 0 ≤ x25 then (if x25 < (x19.length : Int) then (if (!((((rd_T28 x15 x25).f0).toList) == (((rd_T28 x19 x25).f0).toList)) || (!(((rd_T28 x15 x25).f1) == ((rd_T28 x19 x25).f1)) || (!(((rd_T28 x15 x25).f2) == ((rd_T28 x19 x25).f2)) || (!(((rd_T28 x15 x25).f3) == ((rd_T28 x19 x25).f3)) || (!(((rd_T28 x15 x25).f4) == ((rd_T28 x19 x25).f4)) || (!((((rd_T28 x15 x25).f5).toList) == (((rd_T28 x19 x25).f5).toList)))))))) = true then (some false) else (graverlaw23_ArlistSplits.l3 k x15 x19 x21 x22 x23 (wrap64 (x25 + 1)))) else (none)) else (none)) else (graverlaw23_ArlistSplits.l4 k x21 x22 x23 0)
def graverlaw23_ArlistSplits.l4 : Nat → List (S28) → Int → List (S28) → Int → Option (Bool)
  | 0, _, _, _, _ => none
  | k + 1, x21, x22, x23, x26 => if x26 < (x21.length : Int) then (if x22 = 0 then (if 0 ≤ x26 then (if x26 < (x23.length : Int) then (if (!((((rd_T28 x21 x26).f0).toList) == (((rd_T28 x23 x26).f0).toList)) || (!(((rd_T28 x21 x26).f1) == ((rd_T28 x23 x26).f1)) || (!(((rd_T28 x21 x26).f2) == ((rd_T28 x23 x26).f2)) || (!(((rd_T28 x21 x26).f3) == ((rd_T28 x23 x26).f3)) || (!(((rd_T28 x21 x26).f4) == ((rd_T28 x23 x26).f4)) || (!((((rd_T28 x21 x26).f5).toList) == (((rd_T28 x23 x26).f5).toList)))))))) = true then (some false) else (graverlaw23_ArlistSplits.l4 k x21 x22 x23 (wrap64 (x26 + 1)))) else (none)) else (none)) else (some true)) else (some true)
def graverlaw23_ArlistSplits.l1 : Nat → List ByteArray → Int → List (S28) → List (S28) → List ByteArray → Int → Option (Bool)
  | 0, _, _, _, _, _, _ => none
  | k + 1, x1, x2, x7, x8, x10, x11 => if x11 < (x1.length : Int) then (if x11 < 6 then (graverlaw23_ArlistSplits.l2 k x1 x2 x7 x8 x10 x11 0 0) else (graverlaw23_ArlistSplits.j4 k x2 x7 x8 x10)) else (graverlaw23_ArlistSplits.j4 k x2 x7 x8 x10)
def graverlaw23_ArlistSplits.l2 : Nat → List ByteArray → Int → List (S28) → List (S28) → List ByteArray → Int → Int → Int → Option (Bool)
  | 0, _, _, _, _, _, _, _, _ => none
  | k + 1, x1, x2, x7, x8, x10, x11, x12, x13 => if 0 ≤ x11 then (if x11 < (x1.length : Int) then (if x13 < ((rdOf ByteArray.empty x1 x11).size : Int) then (if 0 ≤ x13 then (graverlaw23_ArlistSplits.l2 k x1 x2 x7 x8 x10 x11 (wrap64 (x12 + (wrap64 (bt (rdOf ByteArray.empty x1 x11) x13)))) (wrap64 (x13 + 1))) else (none)) else ((some (([(wrap64 (97 + (Int.tmod x12 10))) % 256] : List Int) : List Int)).bind fun y124 => (if 1 + (strOfNums y124).size ≤ 9223372036854775807 then (if x8.length < 2199023255552 then ((some (x8 ++ [(⟨(⟨#[109]⟩ : ByteArray) ++ (strOfNums y124), 0, 0, 0, 0, rdOf ByteArray.empty x1 x11⟩ : S28)] : List (S28))).bind fun y128 => (if x11 < (y128.length : Int) then (if x10.length < 8796093022208 then (graverlaw23_ArlistSplits.l1 k x1 x2 x7 y128 (x10 ++ [(rd_T28 y128 x11).f0]) (wrap64 (x11 + 1))) else (none)) else (none))) else (none)) else (none)))) else (none)) else (none)
def graverlaw23_ArlistSplits.l0 : Nat → List ByteArray → List ByteArray → Int → List (S28) → Int → Option (Bool)
  | 0, _, _, _, _, _ => none
  | k + 1, x0, x1, x2, x7, x9 => if x9 < (x0.length : Int) then (if x9 < 8 then ((some (([(wrap64 (97 + x9)) % 256] : List Int) : List Int)).bind fun y115 => (if 1 + (strOfNums y115).size ≤ 9223372036854775807 then (if 0 ≤ x9 then (if x7.length < 2199023255552 then (graverlaw23_ArlistSplits.l0 k x0 x1 x2 (x7 ++ [(⟨(⟨#[109]⟩ : ByteArray) ++ (strOfNums y115), 0, 0, 0, 0, rdOf ByteArray.empty x0 x9⟩ : S28)]) (wrap64 (x9 + 1))) else (none)) else (none)) else (none))) else (graverlaw23_ArlistSplits.j1 k x1 x2 x7 ([] : List (S28)))) else (graverlaw23_ArlistSplits.j1 k x1 x2 x7 ([] : List (S28)))
end
def graverlaw23_ArlistSplits.f (k : Nat) (l0 : List ByteArray) (l1 : List ByteArray) (a2 : Int) : Option (Bool) := (graverlaw23_speaks.f).bind fun t114 => (if t114 = true then (graverlaw23_ArlistSplits.l0 k l0 l1 a2 ([] : List (S28)) 0) else (some false))
theorem graverlaw23_ArlistSplits.mono_l : ∀ k, (∀ y0 y1 y2 y3, LeO (graverlaw23_ArlistSplits.j1 k y0 y1 y2 y3) (graverlaw23_ArlistSplits.j1 (k + 1) y0 y1 y2 y3)) ∧ (∀ y0 y1 y2 y3, LeO (graverlaw23_ArlistSplits.j4 k y0 y1 y2 y3) (graverlaw23_ArlistSplits.j4 (k + 1) y0 y1 y2 y3)) ∧ (∀ y0 y1 y2 y3 y4 y5 y6 y7, LeO (graverlaw23_ArlistSplits.j5 k y0 y1 y2 y3 y4 y5 y6 y7) (graverlaw23_ArlistSplits.j5 (k + 1) y0 y1 y2 y3 y4 y5 y6 y7)) ∧ (∀ y0 y1 y2 y3 y4 y5, LeO (graverlaw23_ArlistSplits.j6 k y0 y1 y2 y3 y4 y5) (graverlaw23_ArlistSplits.j6 (k + 1) y0 y1 y2 y3 y4 y5)) ∧ (∀ y0 y1 y2 y3 y4 y5, LeO (graverlaw23_ArlistSplits.l3 k y0 y1 y2 y3 y4 y5) (graverlaw23_ArlistSplits.l3 (k + 1) y0 y1 y2 y3 y4 y5)) ∧ (∀ y0 y1 y2 y3, LeO (graverlaw23_ArlistSplits.l4 k y0 y1 y2 y3) (graverlaw23_ArlistSplits.l4 (k + 1) y0 y1 y2 y3)) ∧ (∀ y0 y1 y2 y3 y4 y5, LeO (graverlaw23_ArlistSplits.l1 k y0 y1 y2 y3 y4 y5) (graverlaw23_ArlistSplits.l1 (k + 1) y0 y1 y2 y3 y4 y5)) ∧ (∀ y0 y1 y2 y3 y4 y5 y6 y7, LeO (graverlaw23_ArlistSplits.l2 k y0 y1 y2 y3 y4 y5 y6 y7) (graverlaw23_ArlistSplits.l2 (k + 1) y0 y1 y2 y3 y4 y5 y6 y7)) ∧ (∀ y0 y1 y2 y3 y4, LeO (graverlaw23_ArlistSplits.l0 k y0 y1 y2 y3 y4) (graverlaw23_ArlistSplits.l0 (k + 1) y0 y1 y2 y3 y4))
  | 0 => ⟨fun _ _ _ _ r h => by simp [graverlaw23_ArlistSplits.j1] at h, fun _ _ _ _ r h => by simp [graverlaw23_ArlistSplits.j4] at h, fun _ _ _ _ _ _ _ _ r h => by simp [graverlaw23_ArlistSplits.j5] at h, fun _ _ _ _ _ _ r h => by simp [graverlaw23_ArlistSplits.j6] at h, fun _ _ _ _ _ _ r h => by simp [graverlaw23_ArlistSplits.l3] at h, fun _ _ _ _ r h => by simp [graverlaw23_ArlistSplits.l4] at h, fun _ _ _ _ _ _ r h => by simp [graverlaw23_ArlistSplits.l1] at h, fun _ _ _ _ _ _ _ _ r h => by simp [graverlaw23_ArlistSplits.l2] at h, fun _ _ _ _ _ r h => by simp [graverlaw23_ArlistSplits.l0] at h⟩
  | k + 1 => by
    obtain ⟨ih0, ih1, ih2, ih3, ih4, ih5, ih6, ih7, ih8⟩ := graverlaw23_ArlistSplits.mono_l k
    refine ⟨?_, ?_, ?_, ?_, ?_, ?_, ?_, ?_, ?_⟩
    · intro y0 y1 y2 y3
      unfold graverlaw23_ArlistSplits.j1
      repeat' first
      | (with_reducible exact ih0 _ _ _ _)
      | (with_reducible exact ih1 _ _ _ _)
      | (with_reducible exact ih2 _ _ _ _ _ _ _ _)
      | (with_reducible exact ih3 _ _ _ _ _ _)
      | (with_reducible exact ih4 _ _ _ _ _ _)
      | (with_reducible exact ih5 _ _ _ _)
      | (with_reducible exact ih6 _ _ _ _ _ _)
      | (with_reducible exact ih7 _ _ _ _ _ _ _ _)
      | (with_reducible exact ih8 _ _ _ _ _)
      | (with_reducible exact arlist_Replace.mono _ _ _)
      | (with_reducible exact LeO.refl _)
      | (with_reducible exact LeO.none _)
      | (with_reducible refine LeO.ite ?_ ?_)
      | (with_reducible refine LeO.bind ?_ (fun _ => ?_))
      | exact ih0 _ _ _ _
      | exact ih1 _ _ _ _
      | exact ih2 _ _ _ _ _ _ _ _
      | exact ih3 _ _ _ _ _ _
      | exact ih4 _ _ _ _ _ _
      | exact ih5 _ _ _ _
      | exact ih6 _ _ _ _ _ _
      | exact ih7 _ _ _ _ _ _ _ _
      | exact ih8 _ _ _ _ _
      | exact arlist_Replace.mono _ _ _
      | exact LeO.none _
      | refine LeO.ite ?_ ?_
      | refine LeO.bind ?_ (fun _ => ?_)
    · intro y0 y1 y2 y3
      unfold graverlaw23_ArlistSplits.j4
      repeat' first
      | (with_reducible exact ih0 _ _ _ _)
      | (with_reducible exact ih1 _ _ _ _)
      | (with_reducible exact ih2 _ _ _ _ _ _ _ _)
      | (with_reducible exact ih3 _ _ _ _ _ _)
      | (with_reducible exact ih4 _ _ _ _ _ _)
      | (with_reducible exact ih5 _ _ _ _)
      | (with_reducible exact ih6 _ _ _ _ _ _)
      | (with_reducible exact ih7 _ _ _ _ _ _ _ _)
      | (with_reducible exact ih8 _ _ _ _ _)
      | (with_reducible exact arlist_Replace.mono _ _ _)
      | (with_reducible exact LeO.refl _)
      | (with_reducible exact LeO.none _)
      | (with_reducible refine LeO.ite ?_ ?_)
      | (with_reducible refine LeO.bind ?_ (fun _ => ?_))
      | exact ih0 _ _ _ _
      | exact ih1 _ _ _ _
      | exact ih2 _ _ _ _ _ _ _ _
      | exact ih3 _ _ _ _ _ _
      | exact ih4 _ _ _ _ _ _
      | exact ih5 _ _ _ _
      | exact ih6 _ _ _ _ _ _
      | exact ih7 _ _ _ _ _ _ _ _
      | exact ih8 _ _ _ _ _
      | exact arlist_Replace.mono _ _ _
      | exact LeO.none _
      | refine LeO.ite ?_ ?_
      | refine LeO.bind ?_ (fun _ => ?_)
    · intro y0 y1 y2 y3 y4 y5 y6 y7
      unfold graverlaw23_ArlistSplits.j5
      repeat' first
      | (with_reducible exact ih0 _ _ _ _)
      | (with_reducible exact ih1 _ _ _ _)
      | (with_reducible exact ih2 _ _ _ _ _ _ _ _)
      | (with_reducible exact ih3 _ _ _ _ _ _)
      | (with_reducible exact ih4 _ _ _ _ _ _)
      | (with_reducible exact ih5 _ _ _ _)
      | (with_reducible exact ih6 _ _ _ _ _ _)
      | (with_reducible exact ih7 _ _ _ _ _ _ _ _)
      | (with_reducible exact ih8 _ _ _ _ _)
      | (with_reducible exact arlist_Replace.mono _ _ _)
      | (with_reducible exact LeO.refl _)
      | (with_reducible exact LeO.none _)
      | (with_reducible refine LeO.ite ?_ ?_)
      | (with_reducible refine LeO.bind ?_ (fun _ => ?_))
      | exact ih0 _ _ _ _
      | exact ih1 _ _ _ _
      | exact ih2 _ _ _ _ _ _ _ _
      | exact ih3 _ _ _ _ _ _
      | exact ih4 _ _ _ _ _ _
      | exact ih5 _ _ _ _
      | exact ih6 _ _ _ _ _ _
      | exact ih7 _ _ _ _ _ _ _ _
      | exact ih8 _ _ _ _ _
      | exact arlist_Replace.mono _ _ _
      | exact LeO.none _
      | refine LeO.ite ?_ ?_
      | refine LeO.bind ?_ (fun _ => ?_)
    · intro y0 y1 y2 y3 y4 y5
      unfold graverlaw23_ArlistSplits.j6
      repeat' first
      | (with_reducible exact ih0 _ _ _ _)
      | (with_reducible exact ih1 _ _ _ _)
      | (with_reducible exact ih2 _ _ _ _ _ _ _ _)
      | (with_reducible exact ih3 _ _ _ _ _ _)
      | (with_reducible exact ih4 _ _ _ _ _ _)
      | (with_reducible exact ih5 _ _ _ _)
      | (with_reducible exact ih6 _ _ _ _ _ _)
      | (with_reducible exact ih7 _ _ _ _ _ _ _ _)
      | (with_reducible exact ih8 _ _ _ _ _)
      | (with_reducible exact arlist_Replace.mono _ _ _)
      | (with_reducible exact LeO.refl _)
      | (with_reducible exact LeO.none _)
      | (with_reducible refine LeO.ite ?_ ?_)
      | (with_reducible refine LeO.bind ?_ (fun _ => ?_))
      | exact ih0 _ _ _ _
      | exact ih1 _ _ _ _
      | exact ih2 _ _ _ _ _ _ _ _
      | exact ih3 _ _ _ _ _ _
      | exact ih4 _ _ _ _ _ _
      | exact ih5 _ _ _ _
      | exact ih6 _ _ _ _ _ _
      | exact ih7 _ _ _ _ _ _ _ _
      | exact ih8 _ _ _ _ _
      | exact arlist_Replace.mono _ _ _
      | exact LeO.none _
      | refine LeO.ite ?_ ?_
      | refine LeO.bind ?_ (fun _ => ?_)
    · intro y0 y1 y2 y3 y4 y5
      unfold graverlaw23_ArlistSplits.l3
      repeat' first
      | (with_reducible exact ih0 _ _ _ _)
      | (with_reducible exact ih1 _ _ _ _)
      | (with_reducible exact ih2 _ _ _ _ _ _ _ _)
      | (with_reducible exact ih3 _ _ _ _ _ _)
      | (with_reducible exact ih4 _ _ _ _ _ _)
      | (with_reducible exact ih5 _ _ _ _)
      | (with_reducible exact ih6 _ _ _ _ _ _)
      | (with_reducible exact ih7 _ _ _ _ _ _ _ _)
      | (with_reducible exact ih8 _ _ _ _ _)
      | (with_reducible exact arlist_Replace.mono _ _ _)
      | (with_reducible exact LeO.refl _)
      | (with_reducible exact LeO.none _)
      | (with_reducible refine LeO.ite ?_ ?_)
      | (with_reducible refine LeO.bind ?_ (fun _ => ?_))
      | exact ih0 _ _ _ _
      | exact ih1 _ _ _ _
      | exact ih2 _ _ _ _ _ _ _ _
      | exact ih3 _ _ _ _ _ _
      | exact ih4 _ _ _ _ _ _
      | exact ih5 _ _ _ _
      | exact ih6 _ _ _ _ _ _
      | exact ih7 _ _ _ _ _ _ _ _
      | exact ih8 _ _ _ _ _
      | exact arlist_Replace.mono _ _ _
      | exact LeO.none _
      | refine LeO.ite ?_ ?_
      | refine LeO.bind ?_ (fun _ => ?_)
    · intro y0 y1 y2 y3
      unfold graverlaw23_ArlistSplits.l4
      repeat' first
      | (with_reducible exact ih0 _ _ _ _)
      | (with_reducible exact ih1 _ _ _ _)
      | (with_reducible exact ih2 _ _ _ _ _ _ _ _)
      | (with_reducible exact ih3 _ _ _ _ _ _)
      | (with_reducible exact ih4 _ _ _ _ _ _)
      | (with_reducible exact ih5 _ _ _ _)
      | (with_reducible exact ih6 _ _ _ _ _ _)
      | (with_reducible exact ih7 _ _ _ _ _ _ _ _)
      | (with_reducible exact ih8 _ _ _ _ _)
      | (with_reducible exact arlist_Replace.mono _ _ _)
      | (with_reducible exact LeO.refl _)
      | (with_reducible exact LeO.none _)
      | (with_reducible refine LeO.ite ?_ ?_)
      | (with_reducible refine LeO.bind ?_ (fun _ => ?_))
      | exact ih0 _ _ _ _
      | exact ih1 _ _ _ _
      | exact ih2 _ _ _ _ _ _ _ _
      | exact ih3 _ _ _ _ _ _
      | exact ih4 _ _ _ _ _ _
      | exact ih5 _ _ _ _
      | exact ih6 _ _ _ _ _ _
      | exact ih7 _ _ _ _ _ _ _ _
      | exact ih8 _ _ _ _ _
      | exact arlist_Replace.mono _ _ _
      | exact LeO.none _
      | refine LeO.ite ?_ ?_
      | refine LeO.bind ?_ (fun _ => ?_)
    · intro y0 y1 y2 y3 y4 y5
      unfold graverlaw23_ArlistSplits.l1
      repeat' first
      | (with_reducible exact ih0 _ _ _ _)
      | (with_reducible exact ih1 _ _ _ _)
      | (with_reducible exact ih2 _ _ _ _ _ _ _ _)
      | (with_reducible exact ih3 _ _ _ _ _ _)
      | (with_reducible exact ih4 _ _ _ _ _ _)
      | (with_reducible exact ih5 _ _ _ _)
      | (with_reducible exact ih6 _ _ _ _ _ _)
      | (with_reducible exact ih7 _ _ _ _ _ _ _ _)
      | (with_reducible exact ih8 _ _ _ _ _)
      | (with_reducible exact arlist_Replace.mono _ _ _)
      | (with_reducible exact LeO.refl _)
      | (with_reducible exact LeO.none _)
      | (with_reducible refine LeO.ite ?_ ?_)
      | (with_reducible refine LeO.bind ?_ (fun _ => ?_))
      | exact ih0 _ _ _ _
      | exact ih1 _ _ _ _
      | exact ih2 _ _ _ _ _ _ _ _
      | exact ih3 _ _ _ _ _ _
      | exact ih4 _ _ _ _ _ _
      | exact ih5 _ _ _ _
      | exact ih6 _ _ _ _ _ _
      | exact ih7 _ _ _ _ _ _ _ _
      | exact ih8 _ _ _ _ _
      | exact arlist_Replace.mono _ _ _
      | exact LeO.none _
      | refine LeO.ite ?_ ?_
      | refine LeO.bind ?_ (fun _ => ?_)
    · intro y0 y1 y2 y3 y4 y5 y6 y7
      unfold graverlaw23_ArlistSplits.l2
      repeat' first
      | (with_reducible exact ih0 _ _ _ _)
      | (with_reducible exact ih1 _ _ _ _)
      | (with_reducible exact ih2 _ _ _ _ _ _ _ _)
      | (with_reducible exact ih3 _ _ _ _ _ _)
      | (with_reducible exact ih4 _ _ _ _ _ _)
      | (with_reducible exact ih5 _ _ _ _)
      | (with_reducible exact ih6 _ _ _ _ _ _)
      | (with_reducible exact ih7 _ _ _ _ _ _ _ _)
      | (with_reducible exact ih8 _ _ _ _ _)
      | (with_reducible exact arlist_Replace.mono _ _ _)
      | (with_reducible exact LeO.refl _)
      | (with_reducible exact LeO.none _)
      | (with_reducible refine LeO.ite ?_ ?_)
      | (with_reducible refine LeO.bind ?_ (fun _ => ?_))
      | exact ih0 _ _ _ _
      | exact ih1 _ _ _ _
      | exact ih2 _ _ _ _ _ _ _ _
      | exact ih3 _ _ _ _ _ _
      | exact ih4 _ _ _ _ _ _
      | exact ih5 _ _ _ _
      | exact ih6 _ _ _ _ _ _
      | exact ih7 _ _ _ _ _ _ _ _
      | exact ih8 _ _ _ _ _
      | exact arlist_Replace.mono _ _ _
      | exact LeO.none _
      | refine LeO.ite ?_ ?_
      | refine LeO.bind ?_ (fun _ => ?_)
    · intro y0 y1 y2 y3 y4
      unfold graverlaw23_ArlistSplits.l0
      repeat' first
      | (with_reducible exact ih0 _ _ _ _)
      | (with_reducible exact ih1 _ _ _ _)
      | (with_reducible exact ih2 _ _ _ _ _ _ _ _)
      | (with_reducible exact ih3 _ _ _ _ _ _)
      | (with_reducible exact ih4 _ _ _ _ _ _)
      | (with_reducible exact ih5 _ _ _ _)
      | (with_reducible exact ih6 _ _ _ _ _ _)
      | (with_reducible exact ih7 _ _ _ _ _ _ _ _)
      | (with_reducible exact ih8 _ _ _ _ _)
      | (with_reducible exact arlist_Replace.mono _ _ _)
      | (with_reducible exact LeO.refl _)
      | (with_reducible exact LeO.none _)
      | (with_reducible refine LeO.ite ?_ ?_)
      | (with_reducible refine LeO.bind ?_ (fun _ => ?_))
      | exact ih0 _ _ _ _
      | exact ih1 _ _ _ _
      | exact ih2 _ _ _ _ _ _ _ _
      | exact ih3 _ _ _ _ _ _
      | exact ih4 _ _ _ _ _ _
      | exact ih5 _ _ _ _
      | exact ih6 _ _ _ _ _ _
      | exact ih7 _ _ _ _ _ _ _ _
      | exact ih8 _ _ _ _ _
      | exact arlist_Replace.mono _ _ _
      | exact LeO.none _
      | refine LeO.ite ?_ ?_
      | refine LeO.bind ?_ (fun _ => ?_)
theorem graverlaw23_ArlistSplits.mono : ∀ a0 a1 a2 k, LeO (graverlaw23_ArlistSplits.f k a0 a1 a2) (graverlaw23_ArlistSplits.f (k + 1) a0 a1 a2) := by
  intro a0 a1 a2 k
  obtain ⟨ih0, ih1, ih2, ih3, ih4, ih5, ih6, ih7, ih8⟩ := graverlaw23_ArlistSplits.mono_l k
  unfold graverlaw23_ArlistSplits.f
  repeat' first
      | (with_reducible exact ih0 _ _ _ _)
      | (with_reducible exact ih1 _ _ _ _)
      | (with_reducible exact ih2 _ _ _ _ _ _ _ _)
      | (with_reducible exact ih3 _ _ _ _ _ _)
      | (with_reducible exact ih4 _ _ _ _ _ _)
      | (with_reducible exact ih5 _ _ _ _)
      | (with_reducible exact ih6 _ _ _ _ _ _)
      | (with_reducible exact ih7 _ _ _ _ _ _ _ _)
      | (with_reducible exact ih8 _ _ _ _ _)
      | (with_reducible exact arlist_Replace.mono _ _ _)
      | (with_reducible exact LeO.refl _)
      | (with_reducible exact LeO.none _)
      | (with_reducible refine LeO.ite ?_ ?_)
      | (with_reducible refine LeO.bind ?_ (fun _ => ?_))
      | exact ih0 _ _ _ _
      | exact ih1 _ _ _ _
      | exact ih2 _ _ _ _ _ _ _ _
      | exact ih3 _ _ _ _ _ _
      | exact ih4 _ _ _ _ _ _
      | exact ih5 _ _ _ _
      | exact ih6 _ _ _ _ _ _
      | exact ih7 _ _ _ _ _ _ _ _
      | exact ih8 _ _ _ _ _
      | exact arlist_Replace.mono _ _ _
      | exact LeO.none _
      | refine LeO.ite ?_ ?_
      | refine LeO.bind ?_ (fun _ => ?_)
def graverlaw23_ArlistSplits.T7 : Bool × List (List Nat × List Nat) := (true, [([], []), ([], []), ([1], [1]), ([2], [2]), ([3], [3]), ([4], [4]), ([5], [5]), ([], []), ([], []), ([7, 8], [7, 8]), ([9], [9]), ([6, 10], [6, 10]), ([11], [11]), ([0, 12], [0, 12]), ([13, 13, 0, 1, 2, 3, 4, 5, 6, 7, 8, 9, 10, 11, 12, 13], [0, 13])])
def graverlaw23_ArlistSplits.B7 : List Nat := [0, 0, 2, 6, 14, 30, 62, 0, 0, 384, 896, 2046, 4094, 8191, 16383]
theorem graverlaw23_ArlistSplits.tab7 : rtab .any (opsOf Try.f3 7) = graverlaw23_ArlistSplits.T7 := by kernel_rfl
theorem graverlaw23_ArlistSplits.bits7 : waitsOk graverlaw23_ArlistSplits.T7.2 graverlaw23_ArlistSplits.B7 = true := by kernel_rfl
def graverlaw23_ArlistSplits.T17 : Bool × List (List Nat × List Nat) := (true, [([], []), ([], []), ([1], [1]), ([2], [2]), ([3], [3]), ([4], [4]), ([5], [5]), ([6], [6]), ([], []), ([], []), ([8, 9], [8, 9]), ([10], [10]), ([7, 11], [7, 11]), ([12], [12]), ([0, 13], [0, 13]), ([14, 14, 0, 1, 2, 3, 4, 5, 6, 7, 8, 9, 10, 11, 12, 13, 14], [0, 14])])
def graverlaw23_ArlistSplits.B17 : List Nat := [0, 0, 2, 6, 14, 30, 62, 126, 0, 0, 768, 1792, 4094, 8190, 16383, 32767]
theorem graverlaw23_ArlistSplits.tab17 : rtab .any (opsOf Try.f3 17) = graverlaw23_ArlistSplits.T17 := by kernel_rfl
theorem graverlaw23_ArlistSplits.bits17 : waitsOk graverlaw23_ArlistSplits.T17.2 graverlaw23_ArlistSplits.B17 = true := by kernel_rfl
def graverlaw23_ArlistSplits.T32 : Bool × List (List Nat × List Nat) := (true, [([], []), ([], []), ([0, 1], [0, 1]), ([2], [2]), ([], []), ([], []), ([4, 5], [4, 5]), ([6], [6]), ([3, 7], [3, 7])])
def graverlaw23_ArlistSplits.B32 : List Nat := [0, 0, 3, 7, 0, 0, 48, 112, 255]
theorem graverlaw23_ArlistSplits.tab32 : rtab .any (opsOf Try.f3 32) = graverlaw23_ArlistSplits.T32 := by kernel_rfl
theorem graverlaw23_ArlistSplits.bits32 : waitsOk graverlaw23_ArlistSplits.T32.2 graverlaw23_ArlistSplits.B32 = true := by kernel_rfl
def graverlaw23_ArlistSplits.T37 : Bool × List (List Nat × List Nat) := (true, [([], []), ([], []), ([0, 1], [0, 1]), ([2], [2]), ([], []), ([], []), ([4, 5], [4, 5]), ([6], [6]), ([3, 7], [3, 7])])
def graverlaw23_ArlistSplits.B37 : List Nat := [0, 0, 3, 7, 0, 0, 48, 112, 255]
theorem graverlaw23_ArlistSplits.tab37 : rtab .any (opsOf Try.f3 37) = graverlaw23_ArlistSplits.T37 := by kernel_rfl
theorem graverlaw23_ArlistSplits.bits37 : waitsOk graverlaw23_ArlistSplits.T37.2 graverlaw23_ArlistSplits.B37 = true := by kernel_rfl
set_option maxHeartbeats 8000000 in
set_option maxRecDepth 100000 in
theorem graverlaw23_ArlistSplits.calls (k : Nat) (A0 : Option Addr) (c0 : Nat) (l0 : List ByteArray) (A1 : Option Addr) (c1 : Nat) (l1 : List ByteArray) (a2 : Int) (r : Bool) (w : World) (hr0 : Kd.C Kd.string w A0 l0.length l0) (hc0 : l0.length ≤ c0) (hr1 : Kd.C Kd.string w A1 l1.length l1) (hc1 : l1.length ≤ c1) (h : graverlaw23_ArlistSplits.f k l0 l1 a2 = some r) :
    Calls Try.prog 3 #[.slice A0 l0.length c0, .slice A1 l1.length c1, .int .i64 a2] w fun e w' => e = .returned (.bool r) ∧ Below w.heap.size w w' := by
  have hu28 := Try.underlying28
  have HR0 := Aside0.mk hr0
  have HC0 := Aside0.mk hc0
  clear hr0 hc0
  have HR1 := Aside0.mk hr1
  have HC1 := Aside0.mk hc1
  clear hr1 hc1
  have HB := Aside0.mk (Below.refl w.heap.size w)
  have H : ((graverlaw23_speaks.f).bind fun t114 => (if t114 = true then (graverlaw23_ArlistSplits.l0 k l0 l1 a2 ([] : List (S28)) 0) else (some false))) = some r := h
  clear h
  replace H := Option.bind_eq_some_iff.mp H
  obtain ⟨t114, A40, H⟩ := H
  replace H : (if t114 = true then (graverlaw23_ArlistSplits.l0 k l0 l1 a2 ([] : List (S28)) 0) else (some false)) = some r := H
  have A4 := Aside0.mk A40
  clear A40
  by_cases c5 : t114 = true
  · subst c5
    have H1 : (graverlaw23_ArlistSplits.l0 k l0 l1 a2 ([] : List (S28)) 0) = some r := by rw [if_pos rfl] at H; exact H
    clear H
    have H := H1
    clear H1
    have HC6 := Aside0.mk H
    clear H
    go_enter Try.func3, Try.ntmps3
    go_upto_block 0 with (first | ((with_reducible refine gate_callee (f := 8) rfl ?_); refine goesL_ (some 27) rfl rfl Try.func8 (by kernel_rfl) rfl #[] rfl (by (try simp only [List.map_toArray, List.map_cons, List.map_nil]); first | done | rfl | (simp only [List.length_drop, List.length_take]; rfl)) ?_; (with_reducible refine (graverlaw23_speaks.calls  true _ A4.out).mono ?_); rintro e w7 ⟨rfl, hb⟩; refine ⟨_, rfl, ?_⟩; have n0_ := Aside0.mk (below_step (by repeat (first | (with_reducible first | exact HB.out | apply below_alloc | apply pw_below_drewN | apply below_drew1) | exact HB.out)) hb); clear HB; have HB := n0_; clear n0_; (try clear hb); (try clear hb2); (try clear hk); (try clear hi)))
    (try simp only [Act.put, List.setIfInBounds_toArray, List.set_cons_zero, List.set_cons_succ])
    go_cut [7] (fun v7 wc => ∃ (kq : Nat) (x7_5 : List (S28)), Aside0 (graverlaw23_ArlistSplits.j1 kq l1 a2 x7_5 ([] : List (S28)) = some r) ∧ Aside0 (kq ≤ k) ∧ Aside0 (Kd.R k28 28 wc w.heap.size (fun k_ => some k_ ≠ ((.slice none 0 0) : Value).ownBlock) v7 x7_5) ∧ Aside0 (Kd.R k28 28 wc w.heap.size (fun k_ => some k_ ≠ (v7 : Value).ownBlock) (.slice none 0 0) ([] : List (S28))) ∧ Aside0 (Below w.heap.size w wc))
    case first =>
      have H := HC6.out
      clear HC6
      have H' := Aside0.mk H
      clear H
      go_wp2
      go_loopg [7, 9] k (fun kq v7 v9 w' => ∃ (x7_1 : List (S28)) (x9_1 : Int), v9 = .int .i64 x9_1 ∧ Aside0 (graverlaw23_ArlistSplits.l0 kq l0 l1 a2 x7_1 x9_1 = some r) ∧ Aside0 (kq ≤ k) ∧ Aside0 (Kd.R k28 28 w' w.heap.size (fun _ => True) v7 x7_1) ∧ Aside0 (Below w.heap.size w w'))
      case atStart => exact ⟨(([] : List (S28))), (0), (by first | rfl | (simp; done) | (simp [*]; done)), H', ⟨Nat.le_refl _⟩, ⟨by first | exact Kd.R_nil _ _ _ _ _ | exact Kd.N_nil _ _ _ _ _ | exact Kd.V_nil _ _ _ _ _ | exact Kd.Q_nil _ _ _ _ _ | exact Kd.S_nil _ _ _ _ _⟩, ⟨by repeat (first | (with_reducible first | exact HB.out | apply below_alloc | apply pw_below_drewN | apply below_drew1) | exact HB.out)⟩⟩
      case round =>
        clear H'
        try clear c1
        try clear p2
        try clear c3
        try clear c5
        obtain ⟨x7_1, x9_1, rfl, HA, HK1, HO_7, HB⟩ := hrel
        cases gk with
        | zero => exact absurd HA.out (by simp [graverlaw23_ArlistSplits.l0])
        | succ k1 =>
          have H := HA.out
          clear HA
          simp only [graverlaw23_ArlistSplits.l0] at H
          by_cases c8 : x9_1 < (l0.length : Int)
          · rw [if_pos c8] at H
            have c8b0 : decide (x9_1 < (l0.length : Int)) = true := decide_eq_true c8
            clear c8
            (first | rw [c8b0] | (simp only [i64_w, i32_w]; rw [c8b0]) | skip)
            by_cases c9 : x9_1 < 8
            · rw [if_pos c9] at H
              have c9b0 : decide (x9_1 < 8) = true := decide_eq_true c9
              clear c9
              obtain ⟨y115, hy115⟩ : ∃ y_ : List Int, y_ = (([(wrap64 (97 + x9_1)) % 256] : List Int)) := ⟨_, rfl⟩
              replace H : (if 1 + (strOfNums y115).size ≤ 9223372036854775807 then (if 0 ≤ x9_1 then (if x7_1.length < 2199023255552 then (graverlaw23_ArlistSplits.l0 k1 l0 l1 a2 (x7_1 ++ [(⟨(⟨#[109]⟩ : ByteArray) ++ (strOfNums y115), 0, 0, 0, 0, rdOf ByteArray.empty l0 x9_1⟩ : S28)]) (wrap64 (x9_1 + 1))) else (none)) else (none)) else (none)) = some r := by first | (rw [hy115]; with_reducible exact H) | (have H2_ := (Option.bind_some _ _).symm.trans H; rw [hy115]; with_reducible exact H2_) | (have H2_ := (Option.bind_some _ _).symm.trans H; with_reducible exact H2_) | with_reducible exact H | (rw [hy115]; exact H) | exact H
              have Ny115 := Aside0.mk hy115
              clear hy115
              by_cases c10 : 1 + (strOfNums y115).size ≤ 9223372036854775807
              · rw [if_pos c10] at H
                have c10b0 := eq_true c10
                have c10b1 : decide (1 + (strOfNums y115).size ≤ 9223372036854775807) = true := decide_eq_true c10
                try have c10b2 : (9223372036854775807 < 1 + (strOfNums y115).size) = False := eq_false (Nat.not_lt.2 c10)
                by_cases c11 : 0 ≤ x9_1
                · rw [if_pos c11] at H
                  have c11b0 : decide (0 ≤ x9_1) = true := decide_eq_true c11
                  clear c11
                  by_cases c12 : x7_1.length < 2199023255552
                  · rw [if_pos c12] at H
                    have LMc12 := Aside0.mk c12
                    clear c12
                    obtain ⟨y119, hy119⟩ : ∃ y_ : List (S28), y_ = (x7_1 ++ [(⟨(⟨#[109]⟩ : ByteArray) ++ (strOfNums y115), 0, 0, 0, 0, rdOf ByteArray.empty l0 x9_1⟩ : S28)]) := ⟨_, rfl⟩
                    replace H : (graverlaw23_ArlistSplits.l0 k1 l0 l1 a2 y119 (wrap64 (x9_1 + 1))) = some r := by first | (rw [hy119]; with_reducible exact H) | (have H2_ := (Option.bind_some _ _).symm.trans H; rw [hy119]; with_reducible exact H2_) | (have H2_ := (Option.bind_some _ _).symm.trans H; with_reducible exact H2_) | with_reducible exact H | (rw [hy119]; exact H) | exact H
                    have Ny119 := Aside0.mk hy119
                    clear hy119
                    have H' := Aside0.mk H
                    clear H
                    try go_wp2
                    have n0_ := Aside0.mk (Kd.R_drew HO_7.out)
                    have n1_ := Aside0.mk (below_drew1 HB.out)
                    clear HO_7
                    clear HB
                    have HO_7 := n0_
                    have HB := n1_
                    clear n0_ n1_
                    have p118 : 0 ≤ (x9_1 : Int) := of_decide_eq_true (by first | (with_reducible assumption) | assumption)
                    have q118 : x9_1 < (l0.length : Int) := of_decide_eq_true (by first | (with_reducible assumption) | assumption)
                    obtain ⟨ad118, e118, hx118_0⟩ := Kd.at_string HR0.out x9_1 p118 q118
                    have hw118_0 := hx118_0
                    cases e118
                    replace hx118_0 := (HB.out.cell (World.block_lt_of_cell? w _ hx118_0)).trans hx118_0
                    replace p118 := eq_true p118
                    replace q118 := eq_true q118
                    refine start_ (n := 15) (S := fun w' => w'.cell? (ad118.add (x9_1).toNat) = some (.string (rdOf ByteArray.empty l0 x9_1))) (ds := []) #[false, false, false, false, false, false, false, false, false, false, false, false, false, false, false] (by kernel_rfl) rfl rfl (((HB.out.cell (World.block_lt_of_cell? w _ hw118_0)).trans hw118_0)) (fun hHeld => ?_); refine with_tabW graverlaw23_ArlistSplits.tab7 graverlaw23_ArlistSplits.bits7 (fun HT_ HW_ => ?_)
                    generalize wr.drew = w13 at HO_7 HB hx118_0 hHeld ⊢
                    refine pure_ (i := 0) (N := some 39) (v := ?_) (a' := ?_) #[true, false, false, false, false, false, false, false, false, false, false, false, false, false, false] rfl rfl (any_of HT_.out (by kernel_rfl)) (fun _ _ _ h => h) (Or.inl ⟨by rfl, ?_⟩) ?_ ?_
                    rotate_left
                    · intro w'
                      go_simp
                      first | with_reducible rfl | (rw [if_neg (by (try simp only [ByteArray.size_extract, ByteArray.size_append] at *); omega)]; first | done | with_reducible rfl)
                    rotate_left
                    · simp only [Act.put, List.setIfInBounds_toArray, List.set_cons_zero, List.set_cons_succ, i64_w, i32_w]
                      rfl
                    refine pure_ (i := 1) (N := some 40) (v := ?_) (a' := ?_) #[true, true, false, false, false, false, false, false, false, false, false, false, false, false, false] rfl rfl (any_of HT_.out (by kernel_rfl)) (fun _ _ _ h => h) (Or.inl ⟨by rfl, ?_⟩) ?_ ?_
                    rotate_left
                    · intro w'
                      go_simp
                      first | with_reducible rfl | (rw [if_neg (by (try simp only [ByteArray.size_extract, ByteArray.size_append] at *); omega)]; first | done | with_reducible rfl)
                    rotate_left
                    · simp only [Act.put, List.setIfInBounds_toArray, List.set_cons_zero, List.set_cons_succ, i64_w, i32_w]
                      rfl
                    refine pure_ (i := 2) (N := some 41) (v := ?_) (a' := ?_) #[true, true, true, false, false, false, false, false, false, false, false, false, false, false, false] rfl rfl (any_of HT_.out (by kernel_rfl)) (fun _ _ _ h => h) (Or.inl ⟨by rfl, ?_⟩) ?_ ?_
                    rotate_left
                    · intro w'
                      go_simp
                      first | with_reducible rfl | (rw [if_neg (by (try simp only [ByteArray.size_extract, ByteArray.size_append] at *); omega)]; first | done | with_reducible rfl)
                    rotate_left
                    · simp only [Act.put, List.setIfInBounds_toArray, List.set_cons_zero, List.set_cons_succ, i64_w, i32_w]
                      rfl
                    refine pure_ (i := 3) (N := some 42) (v := ?_) (a' := ?_) #[true, true, true, true, false, false, false, false, false, false, false, false, false, false, false] rfl rfl (any_of HT_.out (by kernel_rfl)) (fun _ _ _ h => h) (Or.inl ⟨by rfl, ?_⟩) ?_ ?_
                    rotate_left
                    · intro w'
                      go_simp
                      first | with_reducible rfl | (rw [if_neg (by (try simp only [ByteArray.size_extract, ByteArray.size_append] at *); omega)]; first | done | with_reducible rfl)
                    rotate_left
                    · simp only [Act.put, List.setIfInBounds_toArray, List.set_cons_zero, List.set_cons_succ, i64_w, i32_w]
                      rfl
                    refine pure_ (i := 7) (N := some 46) (v := ?_) (a' := ?_) #[true, true, true, true, false, false, false, true, false, false, false, false, false, false, false] rfl rfl (any_of HT_.out (by kernel_rfl)) (fun _ _ _ h => h) (Or.inl ⟨by rfl, ?_⟩) ?_ ?_
                    rotate_left
                    · intro w'
                      go_simp
                      first | with_reducible rfl | (rw [if_neg (by (try simp only [ByteArray.size_extract, ByteArray.size_append] at *); omega)]; first | done | with_reducible rfl)
                    rotate_left
                    · simp only [Act.put, List.setIfInBounds_toArray, List.set_cons_zero, List.set_cons_succ, i64_w, i32_w]
                      rfl
                    refine pure_ (i := 8) (N := some 47) (v := ?_) (a' := ?_) #[true, true, true, true, false, false, false, true, true, false, false, false, false, false, false] rfl rfl (any_of HT_.out (by kernel_rfl)) (fun _ _ _ h => h) (Or.inl ⟨by rfl, ?_⟩) ?_ ?_
                    rotate_left
                    · intro w'
                      go_simp
                      first | with_reducible rfl | (rw [if_neg (by (try simp only [ByteArray.size_extract, ByteArray.size_append] at *); omega)]; first | done | with_reducible rfl)
                    rotate_left
                    · simp only [Act.put, List.setIfInBounds_toArray, List.set_cons_zero, List.set_cons_succ, i64_w, i32_w]
                      rfl
                    refine pure_ (i := 9) (N := some 48) (v := ?_) (a' := ?_) #[true, true, true, true, false, false, false, true, true, true, false, false, false, false, false] rfl rfl (any_of HT_.out (by kernel_rfl)) (fun _ _ _ h => h) (Or.inl ⟨by rfl, ?_⟩) ?_ ?_
                    rotate_left
                    · intro w'
                      go_simp
                      first | with_reducible rfl | (rw [if_neg (by (try simp only [ByteArray.size_extract, ByteArray.size_append] at *); omega)]; first | done | with_reducible rfl)
                    rotate_left
                    · simp only [Act.put, List.setIfInBounds_toArray, List.set_cons_zero, List.set_cons_succ, i64_w, i32_w]
                      rfl
                    refine take_ (i := 10) (N := some 49) (v := ?_) (a' := ?_) #[true, true, true, true, false, false, false, true, true, true, true, false, false, false, false] rfl rfl (take_ofW HT_.out HW_.out (by kernel_rfl)) (fun _ _ _ h => h) (Or.inl ⟨by rfl, ?_⟩) hHeld ?_ ?_
                    rotate_left
                    · intro w' s0
                      go_simp
                      first | with_reducible rfl | (rw [if_neg (by (try simp only [ByteArray.size_extract, ByteArray.size_append] at *); omega)]; first | done | with_reducible rfl)
                    rotate_left
                    · simp only [Act.put, List.setIfInBounds_toArray, List.set_cons_zero, List.set_cons_succ, i64_w, i32_w]
                      rfl
                    refine one_ (i := 4) (N := some 43) #[true, true, true, true, true, false, false, true, true, true, true, false, false, false, false] rfl rfl (one_of HT_.out (by kernel_rfl)) (by decide) (fun K hK => ?_)
                    refine Kd.R_lit_step (Kd.int .u8) _ 5 ?hg (N := 43) ?hd (xs := ([(wrap64 (97 + x9_1)) % 256] : List Int)) (inner := [.int .u8 ((wrap64 (97 + x9_1)) % 256)]) (ok := fun _ => True) (okp := fun _ => True) ?hr ?hp (fun _ hk => hk) trivial (Below.refl _ _) (Nat.le_refl _) (by simp) ?_; (case hd => rfl); (case hg => rfl); (case hr => first | (go_simp; done) | (go_simp; rfl)); (case hp => exact (Reps.one (show Kd.M (Kd.int .u8) _ _ _ ((wrap64 (97 + x9_1)) % 256) [.int .u8 ((wrap64 (97 + x9_1)) % 256)] from rfl) (Reps.none _ _)))
                    intro v116 w14 ho15 hb hg_ hnew_
                    clear hg_ hnew_
                    (first | rw [← Ny115.out] at ho15 | (simp only [Int.reduceToNat] at ho15; rw [← Ny115.out] at ho15))
                    have n0_ := Aside0.mk (Kd.R_below (by (with_reducible repeat (first | apply Kd.R_alloc | apply Kd.R_drewN | apply Kd.R_drew)); exact HO_7.out) hb)
                    have n1_ := Aside0.mk (Kd.R_lower ho15 (below_size (by repeat (first | (with_reducible first | exact HB.out | apply below_alloc | apply pw_below_drewN | apply below_drew1) | exact HB.out))))
                    have n2_ := Aside0.mk (below_step (by repeat (first | (with_reducible first | exact HB.out | apply below_alloc | apply pw_below_drewN | apply below_drew1) | exact HB.out)) hb)
                    clear HO_7
                    clear HB
                    have HO_7 := n0_
                    have HO117 := n1_
                    have HB := n2_
                    clear n0_ n1_ n2_
                    clear hb ho15
                    refine hK.out _ _ (((HB.out.cell (World.block_lt_of_cell? w _ hw118_0)).trans hw118_0)) (fun hHeld => ?_)
                    clear hK K
                    refine norm_ (a' := ?_) ?_ ?_
                    rotate_left
                    · show Act.put _ (some 43) _ = _
                      simp only [Act.put, List.setIfInBounds_toArray, List.set_cons_zero, List.set_cons_succ, i64_w, i32_w]
                      rfl
                    refine one_ (i := 5) (N := some 44) #[true, true, true, true, true, true, false, true, true, true, true, false, false, false, false] rfl rfl (one_of HT_.out (by kernel_rfl)) (by decide) (fun K hK => ?_)
                    have hcv16 := own_string (P := Try.prog) Try.underlying25 Try.underlying5 Try.underlying9 (Kd.own_of_R HO117.out)
                    refine value_ (w1 := ?_) (v := ?_) (by rfl) rfl ?_ ?_
                    rotate_left 2
                    · go_simp
                      constructor
                      · rfl
                      · rfl
                    clear hcv16
                    refine hK.out _ _ (((HB.out.cell (World.block_lt_of_cell? w _ hw118_0)).trans hw118_0)) (fun hHeld => ?_)
                    clear hK K
                    refine norm_ (a' := ?_) ?_ ?_
                    rotate_left
                    · show Act.put _ (some 44) _ = _
                      simp only [Act.put, List.setIfInBounds_toArray, List.set_cons_zero, List.set_cons_succ, i64_w, i32_w]
                      rfl
                    refine pure_ (i := 6) (N := some 45) (v := ?_) (a' := ?_) #[true, true, true, true, true, true, true, true, true, true, true, false, false, false, false] rfl rfl (any_of HT_.out (by kernel_rfl)) (fun _ _ _ h => h) (Or.inl ⟨by rfl, ?_⟩) ?_ ?_
                    rotate_left
                    · intro w'
                      go_simp
                      first | with_reducible rfl | (rw [if_neg (by (try simp only [ByteArray.size_extract, ByteArray.size_append] at *); omega)]; first | done | with_reducible rfl)
                    rotate_left
                    · simp only [Act.put, List.setIfInBounds_toArray, List.set_cons_zero, List.set_cons_succ, i64_w, i32_w]
                      rfl
                    refine pure_ (i := 11) (N := some 50) (v := ?_) (a' := ?_) #[true, true, true, true, true, true, true, true, true, true, true, true, false, false, false] rfl rfl (any_of HT_.out (by kernel_rfl)) (fun _ _ _ h => h) (Or.inl ⟨by rfl, ?_⟩) ?_ ?_
                    rotate_left
                    · intro w'
                      go_simp
                      first | with_reducible rfl | (rw [if_neg (by (try simp only [ByteArray.size_extract, ByteArray.size_append] at *); omega)]; first | done | with_reducible rfl)
                    rotate_left
                    · simp only [Act.put, List.setIfInBounds_toArray, List.set_cons_zero, List.set_cons_succ, i64_w, i32_w]
                      rfl
                    refine one_ (i := 12) (N := some 51) #[true, true, true, true, true, true, true, true, true, true, true, true, true, false, false] rfl rfl (one_of HT_.out (by kernel_rfl)) (by decide) (fun K hK => ?_)
                    refine value_ (w1 := ?_) (v := ?_) (by rfl) rfl ?_ ?_
                    rotate_left 2
                    · go_simp
                      constructor
                      · rfl
                      · rfl
                    refine hK.out _ _ ((World.cell?_alloc_lt _ _ _ (World.block_lt_of_cell? _ _ (((HB.out.cell (World.block_lt_of_cell? w _ hw118_0)).trans hw118_0)))).trans (((HB.out.cell (World.block_lt_of_cell? w _ hw118_0)).trans hw118_0))) (fun hHeld => ?_)
                    clear hK K
                    refine norm_ (a' := ?_) ?_ ?_
                    rotate_left
                    · show Act.put _ (some 51) _ = _
                      simp only [Act.put, List.setIfInBounds_toArray, List.set_cons_zero, List.set_cons_succ, i64_w, i32_w]
                      rfl
                    refine one_ (i := 13) (N := some 52) #[true, true, true, true, true, true, true, true, true, true, true, true, true, true, false] rfl rfl (one_of HT_.out (by kernel_rfl)) (by decide) (fun K hK => ?_)
                    refine Kd.R_append_step k28 (w0 := w) w.heap.size (by rfl) (.tmp 39) (.tmp 51) 24 28 (.agg #[(.string ⟨#[]⟩), (.int .u64 0), (.int .u64 0), (.int .u64 0), (.int .u64 0), (.string ⟨#[]⟩)]) 64 rfl Try.underlying24 info28 rfl (by decide) (by omega) u7 x7_1 (⟨(⟨#[109]⟩ : ByteArray) ++ (strOfNums y115), 0, 0, 0, 0, rdOf ByteArray.empty l0 x9_1⟩ : S28) [.string ((⟨#[109]⟩ : ByteArray) ++ (strOfNums y115)), .int .u64 0, .int .u64 0, .int .u64 0, .int .u64 0, .string (rdOf ByteArray.empty l0 x9_1)] (fun _ => True) (fun _ => False) rfl rfl ?aP (fun _ hk => hk.elim) ?aF ?aO ?aB ?aS ?aL ?_
                    (case aP => exact k28_mkM _ _ _ (⟨(⟨#[109]⟩ : ByteArray) ++ (strOfNums y115), 0, 0, 0, 0, rdOf ByteArray.empty l0 x9_1⟩ : S28))
                    (case aB => exact (by repeat (first | (with_reducible first | exact HB.out | apply below_alloc | apply pw_below_drewN | apply below_drew1) | exact HB.out)))
                    (case aF => exact (fun _ _ => trivial))
                    (case aO => exact (by (with_reducible repeat (first | apply Kd.R_alloc | apply Kd.R_drewN | apply Kd.R_drew)); exact HO_7.out))
                    (case aS => exact (below_size (by repeat (first | (with_reducible first | exact HB.out | apply below_alloc | apply pw_below_drewN | apply below_drew1) | exact HB.out))))
                    (case aL => have := LMc12.out; omega)
                    intro v120 w17 ho hb hg hat
                    rw [← Ny119.out] at ho
                    have n0_ := Aside0.mk (Kd.R_over' (by (with_reducible repeat (first | apply Kd.R_alloc | apply Kd.R_drewN | apply Kd.R_drew)); exact HO117.out) (Kd.R_typed (by (with_reducible repeat (first | apply Kd.R_alloc | apply Kd.R_drewN | apply Kd.R_drew)); exact HO_7.out)) (by decide) hg)
                    have n1_ := Aside0.mk (hb)
                    have n2_ := Aside0.mk (ho)
                    clear HO117
                    clear HB
                    clear HO_7
                    have HO117 := n0_
                    have HB := n1_
                    have HO121 := n2_
                    clear n0_ n1_ n2_
                    clear ho hb hg hat
                    refine hK.out _ _ (((HB.out.cell (World.block_lt_of_cell? w _ hw118_0)).trans hw118_0)) (fun hHeld => ?_)
                    clear hK K
                    refine norm_ (a' := ?_) ?_ ?_
                    rotate_left
                    · show Act.put _ (some 52) _ = _
                      simp only [Act.put, List.setIfInBounds_toArray, List.set_cons_zero, List.set_cons_succ, i64_w, i32_w]
                      rfl
                    refine pure_ (i := 14) (N := some 7) (v := ?_) (a' := ?_) #[true, true, true, true, true, true, true, true, true, true, true, true, true, true, true] rfl rfl (any_of HT_.out (by kernel_rfl)) (fun _ _ _ h => h) (Or.inl ⟨by rfl, ?_⟩) ?_ ?_
                    rotate_left
                    · intro w'
                      go_simp
                      first | with_reducible rfl | (rw [if_neg (by (try simp only [ByteArray.size_extract, ByteArray.size_append] at *); omega)]; first | done | with_reducible rfl)
                    rotate_left
                    · simp only [Act.put, List.setIfInBounds_toArray, List.set_cons_zero, List.set_cons_succ, i64_w, i32_w]
                      rfl
                    refine done_ (done_of HT_.out (by kernel_rfl)) ?_
                    try go_wp2
                    go_roundg k1
                    case measure => have := HK1.out; omega
                    case rel => exact ⟨(y119), (wrap64 (x9_1 + 1)), (by first | rfl | (simp; done) | (simp [*]; done)), H', ⟨by have := HK1.out; omega⟩, ⟨by (with_reducible repeat (first | apply Kd.R_alloc | apply Kd.R_drewN | apply Kd.R_drew)); exact HO121.out⟩, ⟨by repeat (first | (with_reducible first | exact HB.out | apply below_alloc | apply pw_below_drewN | apply below_drew1) | exact HB.out)⟩⟩
                  · rw [if_neg c12] at H
                    exact absurd H (by simp)
                · rw [if_neg c11] at H
                  exact absurd H (by simp)
              · rw [if_neg c10] at H
                exact absurd H (by simp)
            · rw [if_neg c9] at H
              have c9b0 : decide (x9_1 < 8) = false := decide_eq_false c9
              clear c9
              have H' := Aside0.mk H
              clear H
              go_wp2
              first | go_meet
              case rel => exact ⟨_, (x7_1), H', ⟨by have := HK1.out; first | omega | exact Nat.le_refl _⟩, ⟨by (with_reducible repeat (first | apply Kd.R_alloc | apply Kd.R_drewN | apply Kd.R_drew)); exact Kd.R_mono HO_7.out (fun _ hk => (by simp [Value.ownBlock]))⟩, ⟨by first | exact Kd.R_nil _ _ _ _ _ | exact Kd.N_nil _ _ _ _ _ | exact Kd.V_nil _ _ _ _ _ | exact Kd.Q_nil _ _ _ _ _ | exact Kd.S_nil _ _ _ _ _⟩, ⟨by repeat (first | (with_reducible first | exact HB.out | apply below_alloc | apply pw_below_drewN | apply below_drew1) | exact HB.out)⟩⟩
          · rw [if_neg c8] at H
            have c8b0 : decide (x9_1 < (l0.length : Int)) = false := decide_eq_false c8
            clear c8
            (first | rw [c8b0] | (simp only [i64_w, i32_w]; rw [c8b0]) | skip)
            have H' := Aside0.mk H
            clear H
            go_wp2
            first | go_meet
            case rel => exact ⟨_, (x7_1), H', ⟨by have := HK1.out; first | omega | exact Nat.le_refl _⟩, ⟨by (with_reducible repeat (first | apply Kd.R_alloc | apply Kd.R_drewN | apply Kd.R_drew)); exact Kd.R_mono HO_7.out (fun _ hk => (by simp [Value.ownBlock]))⟩, ⟨by first | exact Kd.R_nil _ _ _ _ _ | exact Kd.N_nil _ _ _ _ _ | exact Kd.V_nil _ _ _ _ _ | exact Kd.Q_nil _ _ _ _ _ | exact Kd.S_nil _ _ _ _ _⟩, ⟨by repeat (first | (with_reducible first | exact HB.out | apply below_alloc | apply pw_below_drewN | apply below_drew1) | exact HB.out)⟩⟩
    case rest =>
      clear HC6
      try clear c1
      try clear p1
      try clear q1
      try clear hx1
      try clear hcv1
      try clear p2
      try clear c3
      try clear c5
      try clear p6
      try clear c8
      try clear c8b0
      try clear c9
      try clear c9b0
      try clear c10
      try clear c10b0
      try clear c10b1
      try clear c10b2
      try clear c11
      try clear c11b0
      try clear p11
      try clear q11
      try clear hx11
      try clear c12
      try clear hcv16
      try clear hx118_0
      try clear p118
      try clear p2
      try clear q118
      obtain ⟨kq, x7_5, HA, HJ5, HO_7, HO_8, HB⟩ := hcut
      cases kq with
      | zero => exact absurd HA.out (by simp [graverlaw23_ArlistSplits.j1])
      | succ kj5 =>
        have H := HA.out
        clear HA
        simp only [graverlaw23_ArlistSplits.j1] at H
        have HC18 := Aside0.mk H
        clear H
        go_upto_block 2 with (fail)
        go_cut [8, 10] (fun v8 v10 wc => ∃ (kq : Nat) (x8_17 : List (S28)) (x10_17 : List ByteArray), Aside0 (graverlaw23_ArlistSplits.j4 kq a2 x7_5 x8_17 x10_17 = some r) ∧ Aside0 (kq ≤ kj5) ∧ Aside0 (Kd.R k28 28 wc w.heap.size (fun k_ => some k_ ≠ (v8 : Value).ownBlock) u7 x7_5) ∧ Aside0 (Kd.R k28 28 wc w.heap.size (fun k_ => some k_ ≠ (u7 : Value).ownBlock) v8 x8_17) ∧ Aside0 (Kd.R Kd.string 9 wc w.heap.size (fun _ => True) v10 x10_17) ∧ Aside0 (Below w.heap.size w wc))
        case first =>
          have H := HC18.out
          clear HC18
          have H' := Aside0.mk H
          clear H
          go_wp2
          go_loopg [8, 10, 11] kj5 (fun kq v8 v10 v11 w' => ∃ (x8_2 : List (S28)) (x10_2 : List ByteArray) (x11_2 : Int), v11 = .int .i64 x11_2 ∧ Aside0 (graverlaw23_ArlistSplits.l1 kq l1 a2 x7_5 x8_2 x10_2 x11_2 = some r) ∧ Aside0 (kq ≤ kj5) ∧ Aside0 (Kd.R k28 28 w' w.heap.size (fun k_ => some k_ ≠ (v8 : Value).ownBlock) u7 x7_5) ∧ Aside0 (Kd.R k28 28 w' w.heap.size (fun k_ => some k_ ≠ (u7 : Value).ownBlock) v8 x8_2) ∧ Aside0 (Kd.R Kd.string 9 w' w.heap.size (fun _ => True) v10 x10_2) ∧ Aside0 (Below w.heap.size w w'))
          case atStart => exact ⟨(([] : List (S28))), (([] : List ByteArray)), (0), (by first | rfl | (simp; done) | (simp [*]; done)), H', ⟨Nat.le_refl _⟩, ⟨by (with_reducible repeat (first | apply Kd.R_alloc | apply Kd.R_drewN | apply Kd.R_drew)); exact HO_7.out⟩, ⟨by (with_reducible repeat (first | apply Kd.R_alloc | apply Kd.R_drewN | apply Kd.R_drew)); exact HO_8.out⟩, ⟨by first | exact Kd.R_nil _ _ _ _ _ | exact Kd.N_nil _ _ _ _ _ | exact Kd.V_nil _ _ _ _ _ | exact Kd.Q_nil _ _ _ _ _ | exact Kd.S_nil _ _ _ _ _⟩, ⟨by repeat (first | (with_reducible first | exact HB.out | apply below_alloc | apply pw_below_drewN | apply below_drew1) | exact HB.out)⟩⟩
          case round =>
            clear H'
            try clear c1
            try clear p1
            try clear q1
            try clear hx1
            try clear hcv1
            try clear p2
            try clear c3
            try clear c5
            try clear p6
            try clear c8
            try clear c8b0
            try clear c9
            try clear c9b0
            try clear c10
            try clear c10b0
            try clear c10b1
            try clear c10b2
            try clear c11
            try clear c11b0
            try clear p11
            try clear q11
            try clear hx11
            try clear c12
            try clear hcv16
            try clear hx118_0
            try clear p1
            try clear p11
            try clear p118
            try clear p2
            try clear p6
            try clear q1
            try clear q11
            try clear q118
            obtain ⟨x8_2, x10_2, x11_2, rfl, HA, HK2, HO_7, HO_8, HO_10, HB⟩ := hrel
            cases gk with
            | zero => exact absurd HA.out (by simp [graverlaw23_ArlistSplits.l1])
            | succ k2 =>
              have H := HA.out
              clear HA
              simp only [graverlaw23_ArlistSplits.l1] at H
              by_cases c19 : x11_2 < (l1.length : Int)
              · rw [if_pos c19] at H
                have c19b0 : decide (x11_2 < (l1.length : Int)) = true := decide_eq_true c19
                clear c19
                (first | rw [c19b0] | (simp only [i64_w, i32_w]; rw [c19b0]) | skip)
                by_cases c20 : x11_2 < 6
                · rw [if_pos c20] at H
                  have c20b0 : decide (x11_2 < 6) = true := decide_eq_true c20
                  clear c20
                  have H' := Aside0.mk H
                  clear H
                  go_wp2
                  go_loopg [12, 13] k2 (fun kq v12 v13 w' => ∃ (x12_3 : Int) (x13_3 : Int), v12 = .int .i64 x12_3 ∧ v13 = .int .i64 x13_3 ∧ Aside0 (graverlaw23_ArlistSplits.l2 kq l1 a2 x7_5 x8_2 x10_2 x11_2 x12_3 x13_3 = some r) ∧ Aside0 (kq ≤ k2) ∧ Aside0 (Kd.R k28 28 w' w.heap.size (fun k_ => some k_ ≠ (u8 : Value).ownBlock) u7 x7_5) ∧ Aside0 (Kd.R k28 28 w' w.heap.size (fun k_ => some k_ ≠ (u7 : Value).ownBlock) u8 x8_2) ∧ Aside0 (Kd.R Kd.string 9 w' w.heap.size (fun _ => True) u10 x10_2) ∧ Aside0 (Below w.heap.size w w'))
                  case atStart => exact ⟨(0), (0), (by first | rfl | (simp; done) | (simp [*]; done)), (by first | rfl | (simp; done) | (simp [*]; done)), H', ⟨Nat.le_refl _⟩, ⟨by (with_reducible repeat (first | apply Kd.R_alloc | apply Kd.R_drewN | apply Kd.R_drew)); exact HO_7.out⟩, ⟨by (with_reducible repeat (first | apply Kd.R_alloc | apply Kd.R_drewN | apply Kd.R_drew)); exact HO_8.out⟩, ⟨by (with_reducible repeat (first | apply Kd.R_alloc | apply Kd.R_drewN | apply Kd.R_drew)); exact HO_10.out⟩, ⟨by repeat (first | (with_reducible first | exact HB.out | apply below_alloc | apply pw_below_drewN | apply below_drew1) | exact HB.out)⟩⟩
                  case round =>
                    clear H'
                    try clear c1
                    try clear p1
                    try clear q1
                    try clear hx1
                    try clear hcv1
                    try clear c2
                    try clear p2
                    try clear c3
                    try clear c5
                    try clear p6
                    try clear c8
                    try clear c8b0
                    try clear c9
                    try clear c9b0
                    try clear c10
                    try clear c10b0
                    try clear c10b1
                    try clear c10b2
                    try clear c11
                    try clear c11b0
                    try clear p11
                    try clear q11
                    try clear hx11
                    try clear c12
                    try clear hcv16
                    try clear c19
                    try clear c19b0
                    try clear c20
                    try clear c20b0
                    try clear hx118_0
                    try clear p1
                    try clear p11
                    try clear p118
                    try clear p2
                    try clear p6
                    try clear q1
                    try clear q11
                    try clear q118
                    obtain ⟨x12_3, x13_3, rfl, rfl, HA, HK3, HO_7, HO_8, HO_10, HB⟩ := hrel
                    cases gk with
                    | zero => exact absurd HA.out (by simp [graverlaw23_ArlistSplits.l2])
                    | succ k3 =>
                      have H := HA.out
                      clear HA
                      simp only [graverlaw23_ArlistSplits.l2] at H
                      by_cases c21 : 0 ≤ x11_2
                      · rw [if_pos c21] at H
                        have c21b0 : decide (0 ≤ x11_2) = true := decide_eq_true c21
                        clear c21
                        by_cases c22 : x11_2 < (l1.length : Int)
                        · rw [if_pos c22] at H
                          have c22b0 : decide (x11_2 < (l1.length : Int)) = true := decide_eq_true c22
                          clear c22
                          by_cases c23 : x13_3 < ((rdOf ByteArray.empty l1 x11_2).size : Int)
                          · rw [if_pos c23] at H
                            have c23b0 : decide (x13_3 < ((rdOf ByteArray.empty l1 x11_2).size : Int)) = true := decide_eq_true c23
                            clear c23
                            by_cases c24 : 0 ≤ x13_3
                            · rw [if_pos c24] at H
                              have c24b0 : decide (0 ≤ x13_3) = true := decide_eq_true c24
                              clear c24
                              have H' := Aside0.mk H
                              clear H
                              have p122 : 0 ≤ (x11_2 : Int) := of_decide_eq_true (by first | (with_reducible assumption) | assumption)
                              have q122 : x11_2 < (l1.length : Int) := of_decide_eq_true (by first | (with_reducible assumption) | assumption)
                              obtain ⟨ad122, e122, hx122_0⟩ := Kd.at_string HR1.out x11_2 p122 q122
                              cases e122
                              replace hx122_0 := (HB.out.cell (World.block_lt_of_cell? w _ hx122_0)).trans hx122_0
                              replace p122 := eq_true p122
                              replace q122 := eq_true q122
                              have p123 : 0 ≤ (x11_2 : Int) := of_decide_eq_true (by first | (with_reducible assumption) | assumption)
                              have q123 : x11_2 < (l1.length : Int) := of_decide_eq_true (by first | (with_reducible assumption) | assumption)
                              obtain ⟨ad123, e123, hx123_0⟩ := Kd.at_string HR1.out x11_2 p123 q123
                              obtain rfl : ad122 = ad123 := (by injection e123)
                              replace hx123_0 := (HB.out.cell (World.block_lt_of_cell? w _ hx123_0)).trans hx123_0
                              replace p123 := eq_true p123
                              replace q123 := eq_true q123
                              have p25 : 0 ≤ (x13_3 : Int) := of_decide_eq_true (by first | (with_reducible assumption) | assumption)
                              have q25 : x13_3 < ((rdOf ByteArray.empty l1 x11_2).size : Int) := of_decide_eq_true (by first | (with_reducible assumption) | assumption)
                              have hx25 := bt_at (rdOf ByteArray.empty l1 x11_2) x13_3
                              replace p25 := eq_true p25
                              replace q25 := eq_true q25
                              go_wp2
                              go_roundg k3
                              case measure => have := HJ5.out; have := HK2.out; have := HK3.out; omega
                              case rel => exact ⟨(wrap64 (x12_3 + (wrap64 (bt (rdOf ByteArray.empty l1 x11_2) x13_3)))), (wrap64 (x13_3 + 1)), (by first | rfl | (simp; done) | (simp [*]; done)), (by first | rfl | (simp; done) | (simp [*]; done)), H', ⟨by have := HJ5.out; have := HK2.out; have := HK3.out; omega⟩, ⟨by (with_reducible repeat (first | apply Kd.R_alloc | apply Kd.R_drewN | apply Kd.R_drew)); exact HO_7.out⟩, ⟨by (with_reducible repeat (first | apply Kd.R_alloc | apply Kd.R_drewN | apply Kd.R_drew)); exact HO_8.out⟩, ⟨by (with_reducible repeat (first | apply Kd.R_alloc | apply Kd.R_drewN | apply Kd.R_drew)); exact HO_10.out⟩, ⟨by repeat (first | (with_reducible first | exact HB.out | apply below_alloc | apply pw_below_drewN | apply below_drew1) | exact HB.out)⟩⟩
                            · rw [if_neg c24] at H
                              exact absurd H (by simp)
                          · rw [if_neg c23] at H
                            have c23b0 : decide (x13_3 < ((rdOf ByteArray.empty l1 x11_2).size : Int)) = false := decide_eq_false c23
                            clear c23
                            obtain ⟨y124, hy124⟩ : ∃ y_ : List Int, y_ = (([(wrap64 (97 + (Int.tmod x12_3 10))) % 256] : List Int)) := ⟨_, rfl⟩
                            replace H : (if 1 + (strOfNums y124).size ≤ 9223372036854775807 then (if x8_2.length < 2199023255552 then ((some (x8_2 ++ [(⟨(⟨#[109]⟩ : ByteArray) ++ (strOfNums y124), 0, 0, 0, 0, rdOf ByteArray.empty l1 x11_2⟩ : S28)] : List (S28))).bind fun y128 => (if x11_2 < (y128.length : Int) then (if x10_2.length < 8796093022208 then (graverlaw23_ArlistSplits.l1 k3 l1 a2 x7_5 y128 (x10_2 ++ [(rd_T28 y128 x11_2).f0]) (wrap64 (x11_2 + 1))) else (none)) else (none))) else (none)) else (none)) = some r := by first | (rw [hy124]; with_reducible exact H) | (have H2_ := (Option.bind_some _ _).symm.trans H; rw [hy124]; with_reducible exact H2_) | (have H2_ := (Option.bind_some _ _).symm.trans H; with_reducible exact H2_) | with_reducible exact H | (rw [hy124]; exact H) | exact H
                            have Ny124 := Aside0.mk hy124
                            clear hy124
                            by_cases c26 : 1 + (strOfNums y124).size ≤ 9223372036854775807
                            · rw [if_pos c26] at H
                              have c26b0 := eq_true c26
                              have c26b1 : decide (1 + (strOfNums y124).size ≤ 9223372036854775807) = true := decide_eq_true c26
                              try have c26b2 : (9223372036854775807 < 1 + (strOfNums y124).size) = False := eq_false (Nat.not_lt.2 c26)
                              by_cases c27 : x8_2.length < 2199023255552
                              · rw [if_pos c27] at H
                                have LMc27 := Aside0.mk c27
                                clear c27
                                obtain ⟨y128, hy128⟩ : ∃ y_ : List (S28), y_ = (x8_2 ++ [(⟨(⟨#[109]⟩ : ByteArray) ++ (strOfNums y124), 0, 0, 0, 0, rdOf ByteArray.empty l1 x11_2⟩ : S28)]) := ⟨_, rfl⟩
                                replace H : (if x11_2 < (y128.length : Int) then (if x10_2.length < 8796093022208 then (graverlaw23_ArlistSplits.l1 k3 l1 a2 x7_5 y128 (x10_2 ++ [(rd_T28 y128 x11_2).f0]) (wrap64 (x11_2 + 1))) else (none)) else (none)) = some r := by first | (rw [hy128]; with_reducible exact H) | (have H2_ := (Option.bind_some _ _).symm.trans H; rw [hy128]; with_reducible exact H2_) | (have H2_ := (Option.bind_some _ _).symm.trans H; with_reducible exact H2_) | with_reducible exact H | (rw [hy128]; exact H) | exact H
                                have Ny128 := Aside0.mk hy128
                                clear hy128
                                by_cases c28 : x11_2 < (y128.length : Int)
                                · rw [if_pos c28] at H
                                  have c28b0 : decide (x11_2 < (y128.length : Int)) = true := decide_eq_true c28
                                  clear c28
                                  by_cases c29 : x10_2.length < 8796093022208
                                  · rw [if_pos c29] at H
                                    have LMc29 := Aside0.mk c29
                                    clear c29
                                    obtain ⟨y132, hy132⟩ : ∃ y_ : List ByteArray, y_ = (x10_2 ++ [(rd_T28 y128 x11_2).f0]) := ⟨_, rfl⟩
                                    replace H : (graverlaw23_ArlistSplits.l1 k3 l1 a2 x7_5 y128 y132 (wrap64 (x11_2 + 1))) = some r := by first | (rw [hy132]; with_reducible exact H) | (have H2_ := (Option.bind_some _ _).symm.trans H; rw [hy132]; with_reducible exact H2_) | (have H2_ := (Option.bind_some _ _).symm.trans H; with_reducible exact H2_) | with_reducible exact H | (rw [hy132]; exact H) | exact H
                                    have Ny132 := Aside0.mk hy132
                                    clear hy132
                                    have H' := Aside0.mk H
                                    clear H
                                    have p122 : 0 ≤ (x11_2 : Int) := of_decide_eq_true (by first | (with_reducible assumption) | assumption)
                                    have q122 : x11_2 < (l1.length : Int) := of_decide_eq_true (by first | (with_reducible assumption) | assumption)
                                    obtain ⟨ad122, e122, hx122_0⟩ := Kd.at_string HR1.out x11_2 p122 q122
                                    cases e122
                                    replace hx122_0 := (HB.out.cell (World.block_lt_of_cell? w _ hx122_0)).trans hx122_0
                                    replace p122 := eq_true p122
                                    replace q122 := eq_true q122
                                    try go_wp2
                                    have n0_ := Aside0.mk (Kd.R_drew HO_7.out)
                                    have n1_ := Aside0.mk (Kd.R_drew HO_8.out)
                                    have n2_ := Aside0.mk (Kd.R_drew HO_10.out)
                                    have n3_ := Aside0.mk (below_drew1 HB.out)
                                    clear HO_7
                                    clear HO_8
                                    clear HO_10
                                    clear HB
                                    have HO_7 := n0_
                                    have HO_8 := n1_
                                    have HO_10 := n2_
                                    have HB := n3_
                                    clear n0_ n1_ n2_ n3_
                                    have p127 : 0 ≤ (x11_2 : Int) := of_decide_eq_true (by first | (with_reducible assumption) | assumption)
                                    have q127 : x11_2 < (l1.length : Int) := of_decide_eq_true (by first | (with_reducible assumption) | assumption)
                                    obtain ⟨ad127, e127, hx127_0⟩ := Kd.at_string HR1.out x11_2 p127 q127
                                    have hw127_0 := hx127_0
                                    obtain rfl : ad122 = ad127 := (by injection e127)
                                    replace hx127_0 := (HB.out.cell (World.block_lt_of_cell? w _ hx127_0)).trans hx127_0
                                    replace p127 := eq_true p127
                                    replace q127 := eq_true q127
                                    refine start_ (n := 16) (S := fun w' => w'.cell? (ad122.add (x11_2).toNat) = some (.string (rdOf ByteArray.empty l1 x11_2))) (ds := []) #[false, false, false, false, false, false, false, false, false, false, false, false, false, false, false, false] (by kernel_rfl) rfl rfl (((HB.out.cell (World.block_lt_of_cell? w _ hw127_0)).trans hw127_0)) (fun hHeld => ?_); refine with_tabW graverlaw23_ArlistSplits.tab17 graverlaw23_ArlistSplits.bits17 (fun HT_ HW_ => ?_)
                                    generalize wr.drew = w30 at HO_7 HO_8 HO_10 HB hx127_0 hHeld ⊢
                                    refine pure_ (i := 0) (N := some 81) (v := ?_) (a' := ?_) #[true, false, false, false, false, false, false, false, false, false, false, false, false, false, false, false] rfl rfl (any_of HT_.out (by kernel_rfl)) (fun _ _ _ h => h) (Or.inl ⟨by rfl, ?_⟩) ?_ ?_
                                    rotate_left
                                    · intro w'
                                      go_simp
                                      first | with_reducible rfl | (rw [if_neg (by (try simp only [ByteArray.size_extract, ByteArray.size_append] at *); omega)]; first | done | with_reducible rfl)
                                    rotate_left
                                    · simp only [Act.put, List.setIfInBounds_toArray, List.set_cons_zero, List.set_cons_succ, i64_w, i32_w]
                                      rfl
                                    refine pure_ (i := 1) (N := some 82) (v := ?_) (a' := ?_) #[true, true, false, false, false, false, false, false, false, false, false, false, false, false, false, false] rfl rfl (any_of HT_.out (by kernel_rfl)) (fun _ _ _ h => h) (Or.inl ⟨by rfl, ?_⟩) ?_ ?_
                                    rotate_left
                                    · intro w'
                                      go_simp
                                      first | with_reducible rfl | (rw [if_neg (by (try simp only [ByteArray.size_extract, ByteArray.size_append] at *); omega)]; first | done | with_reducible rfl)
                                    rotate_left
                                    · simp only [Act.put, List.setIfInBounds_toArray, List.set_cons_zero, List.set_cons_succ, i64_w, i32_w]
                                      rfl
                                    refine pure_ (i := 2) (N := some 83) (v := ?_) (a' := ?_) #[true, true, true, false, false, false, false, false, false, false, false, false, false, false, false, false] rfl rfl (any_of HT_.out (by kernel_rfl)) (fun _ _ _ h => h) (Or.inl ⟨by rfl, ?_⟩) ?_ ?_
                                    rotate_left
                                    · intro w'
                                      go_simp
                                      first | with_reducible rfl | (rw [if_neg (by (try simp only [ByteArray.size_extract, ByteArray.size_append] at *); omega)]; first | done | with_reducible rfl)
                                    rotate_left
                                    · simp only [Act.put, List.setIfInBounds_toArray, List.set_cons_zero, List.set_cons_succ, i64_w, i32_w]
                                      rfl
                                    refine pure_ (i := 3) (N := some 84) (v := ?_) (a' := ?_) #[true, true, true, true, false, false, false, false, false, false, false, false, false, false, false, false] rfl rfl (any_of HT_.out (by kernel_rfl)) (fun _ _ _ h => h) (Or.inl ⟨by rfl, ?_⟩) ?_ ?_
                                    rotate_left
                                    · intro w'
                                      go_simp
                                      first | with_reducible rfl | (rw [if_neg (by (try simp only [ByteArray.size_extract, ByteArray.size_append] at *); omega)]; first | done | with_reducible rfl)
                                    rotate_left
                                    · simp only [Act.put, List.setIfInBounds_toArray, List.set_cons_zero, List.set_cons_succ, i64_w, i32_w]
                                      rfl
                                    refine pure_ (i := 4) (N := some 85) (v := ?_) (a' := ?_) #[true, true, true, true, true, false, false, false, false, false, false, false, false, false, false, false] rfl rfl (any_of HT_.out (by kernel_rfl)) (fun _ _ _ h => h) (Or.inl ⟨by rfl, ?_⟩) ?_ ?_
                                    rotate_left
                                    · intro w'
                                      go_simp
                                      first | with_reducible rfl | (rw [if_neg (by (try simp only [ByteArray.size_extract, ByteArray.size_append] at *); omega)]; first | done | with_reducible rfl)
                                    rotate_left
                                    · simp only [Act.put, List.setIfInBounds_toArray, List.set_cons_zero, List.set_cons_succ, i64_w, i32_w]
                                      rfl
                                    refine pure_ (i := 8) (N := some 89) (v := ?_) (a' := ?_) #[true, true, true, true, true, false, false, false, true, false, false, false, false, false, false, false] rfl rfl (any_of HT_.out (by kernel_rfl)) (fun _ _ _ h => h) (Or.inl ⟨by rfl, ?_⟩) ?_ ?_
                                    rotate_left
                                    · intro w'
                                      go_simp
                                      first | with_reducible rfl | (rw [if_neg (by (try simp only [ByteArray.size_extract, ByteArray.size_append] at *); omega)]; first | done | with_reducible rfl)
                                    rotate_left
                                    · simp only [Act.put, List.setIfInBounds_toArray, List.set_cons_zero, List.set_cons_succ, i64_w, i32_w]
                                      rfl
                                    refine pure_ (i := 9) (N := some 90) (v := ?_) (a' := ?_) #[true, true, true, true, true, false, false, false, true, true, false, false, false, false, false, false] rfl rfl (any_of HT_.out (by kernel_rfl)) (fun _ _ _ h => h) (Or.inl ⟨by rfl, ?_⟩) ?_ ?_
                                    rotate_left
                                    · intro w'
                                      go_simp
                                      first | with_reducible rfl | (rw [if_neg (by (try simp only [ByteArray.size_extract, ByteArray.size_append] at *); omega)]; first | done | with_reducible rfl)
                                    rotate_left
                                    · simp only [Act.put, List.setIfInBounds_toArray, List.set_cons_zero, List.set_cons_succ, i64_w, i32_w]
                                      rfl
                                    refine pure_ (i := 10) (N := some 91) (v := ?_) (a' := ?_) #[true, true, true, true, true, false, false, false, true, true, true, false, false, false, false, false] rfl rfl (any_of HT_.out (by kernel_rfl)) (fun _ _ _ h => h) (Or.inl ⟨by rfl, ?_⟩) ?_ ?_
                                    rotate_left
                                    · intro w'
                                      go_simp
                                      first | with_reducible rfl | (rw [if_neg (by (try simp only [ByteArray.size_extract, ByteArray.size_append] at *); omega)]; first | done | with_reducible rfl)
                                    rotate_left
                                    · simp only [Act.put, List.setIfInBounds_toArray, List.set_cons_zero, List.set_cons_succ, i64_w, i32_w]
                                      rfl
                                    refine take_ (i := 11) (N := some 92) (v := ?_) (a' := ?_) #[true, true, true, true, true, false, false, false, true, true, true, true, false, false, false, false] rfl rfl (take_ofW HT_.out HW_.out (by kernel_rfl)) (fun _ _ _ h => h) (Or.inl ⟨by rfl, ?_⟩) hHeld ?_ ?_
                                    rotate_left
                                    · intro w' s0
                                      go_simp
                                      first | with_reducible rfl | (rw [if_neg (by (try simp only [ByteArray.size_extract, ByteArray.size_append] at *); omega)]; first | done | with_reducible rfl)
                                    rotate_left
                                    · simp only [Act.put, List.setIfInBounds_toArray, List.set_cons_zero, List.set_cons_succ, i64_w, i32_w]
                                      rfl
                                    refine one_ (i := 5) (N := some 86) #[true, true, true, true, true, true, false, false, true, true, true, true, false, false, false, false] rfl rfl (one_of HT_.out (by kernel_rfl)) (by decide) (fun K hK => ?_)
                                    refine Kd.R_lit_step (Kd.int .u8) _ 5 ?hg (N := 86) ?hd (xs := ([(wrap64 (97 + (Int.tmod x12_3 10))) % 256] : List Int)) (inner := [.int .u8 ((wrap64 (97 + (Int.tmod x12_3 10))) % 256)]) (ok := fun _ => True) (okp := fun _ => True) ?hr ?hp (fun _ hk => hk) trivial (Below.refl _ _) (Nat.le_refl _) (by simp) ?_; (case hd => rfl); (case hg => rfl); (case hr => first | (go_simp; done) | (go_simp; rfl)); (case hp => exact (Reps.one (show Kd.M (Kd.int .u8) _ _ _ ((wrap64 (97 + (Int.tmod x12_3 10))) % 256) [.int .u8 ((wrap64 (97 + (Int.tmod x12_3 10))) % 256)] from rfl) (Reps.none _ _)))
                                    intro v125 w31 ho32 hb hg_ hnew_
                                    clear hg_ hnew_
                                    (first | rw [← Ny124.out] at ho32 | (simp only [Int.reduceToNat] at ho32; rw [← Ny124.out] at ho32))
                                    have n0_ := Aside0.mk (Kd.R_below (by (with_reducible repeat (first | apply Kd.R_alloc | apply Kd.R_drewN | apply Kd.R_drew)); exact HO_7.out) hb)
                                    have n1_ := Aside0.mk (Kd.R_below (by (with_reducible repeat (first | apply Kd.R_alloc | apply Kd.R_drewN | apply Kd.R_drew)); exact HO_8.out) hb)
                                    have n2_ := Aside0.mk (Kd.R_below (by (with_reducible repeat (first | apply Kd.R_alloc | apply Kd.R_drewN | apply Kd.R_drew)); exact HO_10.out) hb)
                                    have n3_ := Aside0.mk (Kd.R_lower ho32 (below_size (by repeat (first | (with_reducible first | exact HB.out | apply below_alloc | apply pw_below_drewN | apply below_drew1) | exact HB.out))))
                                    have n4_ := Aside0.mk (below_step (by repeat (first | (with_reducible first | exact HB.out | apply below_alloc | apply pw_below_drewN | apply below_drew1) | exact HB.out)) hb)
                                    clear HO_7
                                    clear HO_8
                                    clear HO_10
                                    clear HB
                                    have HO_7 := n0_
                                    have HO_8 := n1_
                                    have HO_10 := n2_
                                    have HO126 := n3_
                                    have HB := n4_
                                    clear n0_ n1_ n2_ n3_ n4_
                                    clear hb ho32
                                    refine hK.out _ _ (((HB.out.cell (World.block_lt_of_cell? w _ hw127_0)).trans hw127_0)) (fun hHeld => ?_)
                                    clear hK K
                                    refine norm_ (a' := ?_) ?_ ?_
                                    rotate_left
                                    · show Act.put _ (some 86) _ = _
                                      simp only [Act.put, List.setIfInBounds_toArray, List.set_cons_zero, List.set_cons_succ, i64_w, i32_w]
                                      rfl
                                    refine one_ (i := 6) (N := some 87) #[true, true, true, true, true, true, true, false, true, true, true, true, false, false, false, false] rfl rfl (one_of HT_.out (by kernel_rfl)) (by decide) (fun K hK => ?_)
                                    have hcv33 := own_string (P := Try.prog) Try.underlying25 Try.underlying5 Try.underlying9 (Kd.own_of_R HO126.out)
                                    refine value_ (w1 := ?_) (v := ?_) (by rfl) rfl ?_ ?_
                                    rotate_left 2
                                    · go_simp
                                      constructor
                                      · rfl
                                      · rfl
                                    clear hcv33
                                    refine hK.out _ _ (((HB.out.cell (World.block_lt_of_cell? w _ hw127_0)).trans hw127_0)) (fun hHeld => ?_)
                                    clear hK K
                                    refine norm_ (a' := ?_) ?_ ?_
                                    rotate_left
                                    · show Act.put _ (some 87) _ = _
                                      simp only [Act.put, List.setIfInBounds_toArray, List.set_cons_zero, List.set_cons_succ, i64_w, i32_w]
                                      rfl
                                    refine pure_ (i := 7) (N := some 88) (v := ?_) (a' := ?_) #[true, true, true, true, true, true, true, true, true, true, true, true, false, false, false, false] rfl rfl (any_of HT_.out (by kernel_rfl)) (fun _ _ _ h => h) (Or.inl ⟨by rfl, ?_⟩) ?_ ?_
                                    rotate_left
                                    · intro w'
                                      go_simp
                                      first | with_reducible rfl | (rw [if_neg (by (try simp only [ByteArray.size_extract, ByteArray.size_append] at *); omega)]; first | done | with_reducible rfl)
                                    rotate_left
                                    · simp only [Act.put, List.setIfInBounds_toArray, List.set_cons_zero, List.set_cons_succ, i64_w, i32_w]
                                      rfl
                                    refine pure_ (i := 12) (N := some 93) (v := ?_) (a' := ?_) #[true, true, true, true, true, true, true, true, true, true, true, true, true, false, false, false] rfl rfl (any_of HT_.out (by kernel_rfl)) (fun _ _ _ h => h) (Or.inl ⟨by rfl, ?_⟩) ?_ ?_
                                    rotate_left
                                    · intro w'
                                      go_simp
                                      first | with_reducible rfl | (rw [if_neg (by (try simp only [ByteArray.size_extract, ByteArray.size_append] at *); omega)]; first | done | with_reducible rfl)
                                    rotate_left
                                    · simp only [Act.put, List.setIfInBounds_toArray, List.set_cons_zero, List.set_cons_succ, i64_w, i32_w]
                                      rfl
                                    refine one_ (i := 13) (N := some 94) #[true, true, true, true, true, true, true, true, true, true, true, true, true, true, false, false] rfl rfl (one_of HT_.out (by kernel_rfl)) (by decide) (fun K hK => ?_)
                                    refine value_ (w1 := ?_) (v := ?_) (by rfl) rfl ?_ ?_
                                    rotate_left 2
                                    · go_simp
                                      constructor
                                      · rfl
                                      · rfl
                                    refine hK.out _ _ ((World.cell?_alloc_lt _ _ _ (World.block_lt_of_cell? _ _ (((HB.out.cell (World.block_lt_of_cell? w _ hw127_0)).trans hw127_0)))).trans (((HB.out.cell (World.block_lt_of_cell? w _ hw127_0)).trans hw127_0))) (fun hHeld => ?_)
                                    clear hK K
                                    refine norm_ (a' := ?_) ?_ ?_
                                    rotate_left
                                    · show Act.put _ (some 94) _ = _
                                      simp only [Act.put, List.setIfInBounds_toArray, List.set_cons_zero, List.set_cons_succ, i64_w, i32_w]
                                      rfl
                                    refine one_ (i := 14) (N := some 95) #[true, true, true, true, true, true, true, true, true, true, true, true, true, true, true, false] rfl rfl (one_of HT_.out (by kernel_rfl)) (by decide) (fun K hK => ?_)
                                    refine Kd.R_append_step k28 (w0 := w) w.heap.size (by rfl) (.tmp 81) (.tmp 94) 24 28 (.agg #[(.string ⟨#[]⟩), (.int .u64 0), (.int .u64 0), (.int .u64 0), (.int .u64 0), (.string ⟨#[]⟩)]) 64 rfl Try.underlying24 info28 rfl (by decide) (by omega) u8 x8_2 (⟨(⟨#[109]⟩ : ByteArray) ++ (strOfNums y124), 0, 0, 0, 0, rdOf ByteArray.empty l1 x11_2⟩ : S28) [.string ((⟨#[109]⟩ : ByteArray) ++ (strOfNums y124)), .int .u64 0, .int .u64 0, .int .u64 0, .int .u64 0, .string (rdOf ByteArray.empty l1 x11_2)] (fun k_ => some k_ ≠ (u7 : Value).ownBlock) (fun _ => False) rfl rfl ?aP (fun _ hk => hk.elim) ?aF ?aO ?aB ?aS ?aL ?_
                                    (case aP => exact k28_mkM _ _ _ (⟨(⟨#[109]⟩ : ByteArray) ++ (strOfNums y124), 0, 0, 0, 0, rdOf ByteArray.empty l1 x11_2⟩ : S28))
                                    (case aB => exact (by repeat (first | (with_reducible first | exact HB.out | apply below_alloc | apply pw_below_drewN | apply below_drew1) | exact HB.out)))
                                    (case aF => exact (fun k_ hk => Kd.fresh' (Kd.R_lt (by (with_reducible repeat (first | apply Kd.R_alloc | apply Kd.R_drewN | apply Kd.R_drew)); exact HO_7.out)) k_ hk))
                                    (case aO => exact (by (with_reducible repeat (first | apply Kd.R_alloc | apply Kd.R_drewN | apply Kd.R_drew)); exact HO_8.out))
                                    (case aS => exact (below_size (by repeat (first | (with_reducible first | exact HB.out | apply below_alloc | apply pw_below_drewN | apply below_drew1) | exact HB.out))))
                                    (case aL => have := LMc27.out; omega)
                                    intro v129 w34 ho hb hg hat
                                    rw [← Ny128.out] at ho
                                    have n0_ := Aside0.mk (Kd.R_after (ok := (fun _ => True)) (by (with_reducible repeat (first | apply Kd.R_alloc | apply Kd.R_drewN | apply Kd.R_drew)); exact Kd.R_mono HO_7.out (fun _ hk => ⟨trivial, hk⟩)) hg hat)
                                    have n1_ := Aside0.mk (Kd.R_over' (by (with_reducible repeat (first | apply Kd.R_alloc | apply Kd.R_drewN | apply Kd.R_drew)); exact HO_10.out) (Kd.R_typed (by (with_reducible repeat (first | apply Kd.R_alloc | apply Kd.R_drewN | apply Kd.R_drew)); exact HO_8.out)) (by decide) hg)
                                    have n2_ := Aside0.mk (Kd.R_over' (by (with_reducible repeat (first | apply Kd.R_alloc | apply Kd.R_drewN | apply Kd.R_drew)); exact HO126.out) (Kd.R_typed (by (with_reducible repeat (first | apply Kd.R_alloc | apply Kd.R_drewN | apply Kd.R_drew)); exact HO_8.out)) (by decide) hg)
                                    have n3_ := Aside0.mk (hb)
                                    have n4_ := Aside0.mk (ho)
                                    clear HO_7
                                    clear HO_10
                                    clear HO126
                                    clear HB
                                    clear HO_8
                                    have HO_7 := n0_
                                    have HO_10 := n1_
                                    have HO126 := n2_
                                    have HB := n3_
                                    have HO130 := n4_
                                    clear n0_ n1_ n2_ n3_ n4_
                                    clear ho hb hg hat
                                    refine hK.out _ _ (((HB.out.cell (World.block_lt_of_cell? w _ hw127_0)).trans hw127_0)) (fun hHeld => ?_)
                                    clear hK K
                                    refine norm_ (a' := ?_) ?_ ?_
                                    rotate_left
                                    · show Act.put _ (some 95) _ = _
                                      simp only [Act.put, List.setIfInBounds_toArray, List.set_cons_zero, List.set_cons_succ, i64_w, i32_w]
                                      rfl
                                    refine pure_ (i := 15) (N := some 8) (v := ?_) (a' := ?_) #[true, true, true, true, true, true, true, true, true, true, true, true, true, true, true, true] rfl rfl (any_of HT_.out (by kernel_rfl)) (fun _ _ _ h => h) (Or.inl ⟨by rfl, ?_⟩) ?_ ?_
                                    rotate_left
                                    · intro w'
                                      go_simp
                                      first | with_reducible rfl | (rw [if_neg (by (try simp only [ByteArray.size_extract, ByteArray.size_append] at *); omega)]; first | done | with_reducible rfl)
                                    rotate_left
                                    · simp only [Act.put, List.setIfInBounds_toArray, List.set_cons_zero, List.set_cons_succ, i64_w, i32_w]
                                      rfl
                                    refine done_ (done_of HT_.out (by kernel_rfl)) ?_
                                    obtain ⟨Ao35, co35, eo35⟩ := Kd.R_slice HO130.out
                                    subst eo35
                                    have p131 : 0 ≤ (x11_2 : Int) := of_decide_eq_true (by first | (with_reducible assumption) | assumption)
                                    have q131 : x11_2 < (y128.length : Int) := of_decide_eq_true (by first | (with_reducible assumption) | assumption)
                                    obtain ⟨ad131, e131, hx131_0, hx131_1, hx131_2, hx131_3, hx131_4, hx131_5⟩ := at_T28 (Kd.R_reads' HO130.out).2.2 x11_2 p131 q131
                                    cases e131
                                    replace p131 := eq_true p131
                                    replace q131 := eq_true q131
                                    try go_wp2_with (first | ((with_reducible refine gate_builtin (b := .append) (xs := #[.tmp 96, .tmp 102]) rfl ?_); (try (refine gate_guard (by rfl) ?_; dsimp only)); at_builtin; refine Kd.R_append Kd.string (w0 := w) w.heap.size rfl (.tmp 96) (.tmp 102) 22 9 (.string ⟨#[]⟩) 16 rfl Try.underlying22 info9 rfl (by decide) (by omega) u10 x10_2 ((rd_T28 y128 x11_2).f0) [.string ((rd_T28 y128 x11_2).f0)] (fun _ => True) (fun _ => False) rfl rfl ?aP (fun _ hk => hk.elim) ?aF ?aO ?aB ?aS ?aL ?_; (case aP => exact rfl); (case aB => exact (by repeat (first | (with_reducible first | exact HB.out | apply below_alloc | apply pw_below_drewN | apply below_drew1) | exact HB.out))); (case aF => exact (fun _ _ => trivial)); (case aO => exact (by (with_reducible repeat (first | apply Kd.R_alloc | apply Kd.R_drewN | apply Kd.R_drew)); exact HO_10.out)); (case aS => exact (below_size (by repeat (first | (with_reducible first | exact HB.out | apply below_alloc | apply pw_below_drewN | apply below_drew1) | exact HB.out)))); (case aL => have := LMc29.out; omega); intro v133 w36 ho hb hg hat; rw [← Ny132.out] at ho; have n0_ := Aside0.mk (Kd.R_over' (by (with_reducible repeat (first | apply Kd.R_alloc | apply Kd.R_drewN | apply Kd.R_drew)); exact HO_7.out) (Kd.R_typed (by (with_reducible repeat (first | apply Kd.R_alloc | apply Kd.R_drewN | apply Kd.R_drew)); exact HO_10.out)) (by decide) hg); have n1_ := Aside0.mk (Kd.R_over' (by (with_reducible repeat (first | apply Kd.R_alloc | apply Kd.R_drewN | apply Kd.R_drew)); exact HO126.out) (Kd.R_typed (by (with_reducible repeat (first | apply Kd.R_alloc | apply Kd.R_drewN | apply Kd.R_drew)); exact HO_10.out)) (by decide) hg); have n2_ := Aside0.mk (Kd.R_over' (by (with_reducible repeat (first | apply Kd.R_alloc | apply Kd.R_drewN | apply Kd.R_drew)); exact HO130.out) (Kd.R_typed (by (with_reducible repeat (first | apply Kd.R_alloc | apply Kd.R_drewN | apply Kd.R_drew)); exact HO_10.out)) (by decide) hg); have n3_ := Aside0.mk (hb); have n4_ := Aside0.mk (ho); clear HO_7; clear HO126; clear HO130; clear HB; clear HO_10; have HO_7 := n0_; have HO126 := n1_; have HO130 := n2_; have HB := n3_; have HO134 := n4_; clear n0_ n1_ n2_ n3_ n4_; clear ho hb hg hat))
                                    go_roundg k3
                                    case measure => have := HJ5.out; have := HK2.out; have := HK3.out; omega
                                    case rel => exact ⟨(y128), (y132), (wrap64 (x11_2 + 1)), (by first | rfl | (simp; done) | (simp [*]; done)), H', ⟨by have := HJ5.out; have := HK2.out; have := HK3.out; omega⟩, ⟨by (with_reducible repeat (first | apply Kd.R_alloc | apply Kd.R_drewN | apply Kd.R_drew)); exact Kd.R_mono HO_7.out (fun _ hk => hk.2)⟩, ⟨by (with_reducible repeat (first | apply Kd.R_alloc | apply Kd.R_drewN | apply Kd.R_drew)); exact HO130.out⟩, ⟨by (with_reducible repeat (first | apply Kd.R_alloc | apply Kd.R_drewN | apply Kd.R_drew)); exact HO134.out⟩, ⟨by repeat (first | (with_reducible first | exact HB.out | apply below_alloc | apply pw_below_drewN | apply below_drew1) | exact HB.out)⟩⟩
                                  · rw [if_neg c29] at H
                                    exact absurd H (by simp)
                                · rw [if_neg c28] at H
                                  exact absurd H (by simp)
                              · rw [if_neg c27] at H
                                exact absurd H (by simp)
                            · rw [if_neg c26] at H
                              exact absurd H (by simp)
                        · rw [if_neg c22] at H
                          exact absurd H (by simp)
                      · rw [if_neg c21] at H
                        exact absurd H (by simp)
                · rw [if_neg c20] at H
                  have c20b0 : decide (x11_2 < 6) = false := decide_eq_false c20
                  clear c20
                  have H' := Aside0.mk H
                  clear H
                  go_wp2
                  first | go_meet
                  case rel => exact ⟨_, (x8_2), (x10_2), H', ⟨by have := HJ5.out; have := HK2.out; first | omega | exact Nat.le_refl _⟩, ⟨by (with_reducible repeat (first | apply Kd.R_alloc | apply Kd.R_drewN | apply Kd.R_drew)); exact HO_7.out⟩, ⟨by (with_reducible repeat (first | apply Kd.R_alloc | apply Kd.R_drewN | apply Kd.R_drew)); exact HO_8.out⟩, ⟨by (with_reducible repeat (first | apply Kd.R_alloc | apply Kd.R_drewN | apply Kd.R_drew)); exact HO_10.out⟩, ⟨by repeat (first | (with_reducible first | exact HB.out | apply below_alloc | apply pw_below_drewN | apply below_drew1) | exact HB.out)⟩⟩
              · rw [if_neg c19] at H
                have c19b0 : decide (x11_2 < (l1.length : Int)) = false := decide_eq_false c19
                clear c19
                (first | rw [c19b0] | (simp only [i64_w, i32_w]; rw [c19b0]) | skip)
                have H' := Aside0.mk H
                clear H
                go_wp2
                first | go_meet
                case rel => exact ⟨_, (x8_2), (x10_2), H', ⟨by have := HJ5.out; have := HK2.out; first | omega | exact Nat.le_refl _⟩, ⟨by (with_reducible repeat (first | apply Kd.R_alloc | apply Kd.R_drewN | apply Kd.R_drew)); exact HO_7.out⟩, ⟨by (with_reducible repeat (first | apply Kd.R_alloc | apply Kd.R_drewN | apply Kd.R_drew)); exact HO_8.out⟩, ⟨by (with_reducible repeat (first | apply Kd.R_alloc | apply Kd.R_drewN | apply Kd.R_drew)); exact HO_10.out⟩, ⟨by repeat (first | (with_reducible first | exact HB.out | apply below_alloc | apply pw_below_drewN | apply below_drew1) | exact HB.out)⟩⟩
        case rest =>
          clear HC18
          try clear c1
          try clear p1
          try clear q1
          try clear hx1
          try clear hcv1
          try clear c2
          try clear p2
          try clear q2
          try clear hx2
          try clear c3
          try clear hcv3
          try clear c5
          try clear p6
          try clear c8
          try clear c8b0
          try clear c9
          try clear c9b0
          try clear c10
          try clear c10b0
          try clear c10b1
          try clear c10b2
          try clear c11
          try clear c11b0
          try clear p11
          try clear q11
          try clear hx11
          try clear c12
          try clear p12
          try clear q12
          try clear hx12
          try clear p13
          try clear q13
          try clear hx13
          try clear hcv16
          try clear c19
          try clear c19b0
          try clear c20
          try clear c20b0
          try clear c21
          try clear c21b0
          try clear c22
          try clear c22b0
          try clear c23
          try clear c23b0
          try clear c24
          try clear c24b0
          try clear p25
          try clear q25
          try clear hx25
          try clear c26
          try clear c26b0
          try clear c26b1
          try clear c26b2
          try clear c27
          try clear c28
          try clear c28b0
          try clear c29
          try clear hcv33
          try clear hx118_0
          try clear hx122_0
          try clear hx123_0
          try clear hx127_0
          try clear hx131_0
          try clear hx131_1
          try clear hx131_2
          try clear hx131_3
          try clear hx131_4
          try clear hx131_5
          try clear p1
          try clear p11
          try clear p118
          try clear p122
          try clear p123
          try clear p127
          try clear p131
          try clear p2
          try clear p25
          try clear p6
          try clear q1
          try clear q11
          try clear q118
          try clear q122
          try clear q123
          try clear q127
          try clear q131
          try clear q25
          obtain ⟨kq, x8_17, x10_17, HA, HJ17, HO_7, HO_8, HO_10, HB⟩ := hcut
          cases kq with
          | zero => exact absurd HA.out (by simp [graverlaw23_ArlistSplits.j4])
          | succ kj17 =>
            have H := HA.out
            clear HA
            simp only [graverlaw23_ArlistSplits.j4] at H
            by_cases c37 : (wrap64 ((x8_17.length : Int) + 1)) = 0
            · rw [if_pos c37] at H
              exact absurd H (by simp)
            · rw [if_neg c37] at H
              have c37b0 : ((wrap64 ((x8_17.length : Int) + 1)) == 0) = false := beq_eq_false_iff_ne.mpr c37
              have c37b1 : ((wrap64 ((x8_17.length : Int) + 1)) != 0) = true := bne_iff_ne.mpr c37
              replace H := Option.bind_eq_some_iff.mp H
              obtain ⟨⟨t135, t136⟩, A380, H⟩ := H
              replace H : (if 0 ≤ (Int.tmod (wrap64 ((wrap64 ((Int.tmod a2 (wrap64 ((x8_17.length : Int) + 1))) + (x8_17.length : Int))) + 1)) (wrap64 ((x8_17.length : Int) + 1))) then (if (Int.tmod (wrap64 ((wrap64 ((Int.tmod a2 (wrap64 ((x8_17.length : Int) + 1))) + (x8_17.length : Int))) + 1)) (wrap64 ((x8_17.length : Int) + 1))) ≤ (x8_17.length : Int) then ((arlist_Replace.f kj17 x7_5 (x8_17.take ((Int.tmod (wrap64 ((wrap64 ((Int.tmod a2 (wrap64 ((x8_17.length : Int) + 1))) + (x8_17.length : Int))) + 1)) (wrap64 ((x8_17.length : Int) + 1))) : Int).toNat)).bind fun bt143 => ((arlist_Replace.f kj17 bt143.1 (x8_17.drop ((Int.tmod (wrap64 ((wrap64 ((Int.tmod a2 (wrap64 ((x8_17.length : Int) + 1))) + (x8_17.length : Int))) + 1)) (wrap64 ((x8_17.length : Int) + 1))) : Int).toNat)).bind fun bt151 => ((arlist_Delete.f x7_5 x10_17).bind fun bt155 => (if (Int.tmod (wrap64 ((wrap64 ((Int.tmod a2 (wrap64 ((x8_17.length : Int) + 1))) + (x8_17.length : Int))) + 1)) (wrap64 ((x8_17.length : Int) + 1))) ≤ (x10_17.length : Int) then ((arlist_Delete.f x7_5 (x10_17.take ((Int.tmod (wrap64 ((wrap64 ((Int.tmod a2 (wrap64 ((x8_17.length : Int) + 1))) + (x8_17.length : Int))) + 1)) (wrap64 ((x8_17.length : Int) + 1))) : Int).toNat)).bind fun bt163 => (if bt163.2 = 0 then ((arlist_Delete.f bt163.1 (x10_17.drop ((Int.tmod (wrap64 ((wrap64 ((Int.tmod a2 (wrap64 ((x8_17.length : Int) + 1))) + (x8_17.length : Int))) + 1)) (wrap64 ((x8_17.length : Int) + 1))) : Int).toNat)).bind fun bt171 => (graverlaw23_ArlistSplits.j5 kj17 t135 t136 bt151.1 bt151.2 bt155.1 bt155.2 bt171.1 bt171.2)) else (graverlaw23_ArlistSplits.j5 kj17 t135 t136 bt151.1 bt151.2 bt155.1 bt155.2 bt163.1 bt163.2))) else (none))))) else (none)) else (none)) = some r := H
              have A38 := Aside0.mk A380
              clear A380
              obtain ⟨ji39, hji39⟩ : ∃ j_ : Int, (Int.tmod (wrap64 ((wrap64 ((Int.tmod a2 (wrap64 ((x8_17.length : Int) + 1))) + (x8_17.length : Int))) + 1)) (wrap64 ((x8_17.length : Int) + 1))) = j_ := ⟨_, rfl⟩
              replace H : (if 0 ≤ (ji39) then (if (ji39) ≤ (x8_17.length : Int) then ((arlist_Replace.f kj17 x7_5 (x8_17.take ((ji39) : Int).toNat)).bind fun bt143 => ((arlist_Replace.f kj17 bt143.1 (x8_17.drop ((ji39) : Int).toNat)).bind fun bt151 => ((arlist_Delete.f x7_5 x10_17).bind fun bt155 => (if (ji39) ≤ (x10_17.length : Int) then ((arlist_Delete.f x7_5 (x10_17.take ((ji39) : Int).toNat)).bind fun bt163 => (if bt163.2 = 0 then ((arlist_Delete.f bt163.1 (x10_17.drop ((ji39) : Int).toNat)).bind fun bt171 => (graverlaw23_ArlistSplits.j5 kj17 t135 t136 bt151.1 bt151.2 bt155.1 bt155.2 bt171.1 bt171.2)) else (graverlaw23_ArlistSplits.j5 kj17 t135 t136 bt151.1 bt151.2 bt155.1 bt155.2 bt163.1 bt163.2))) else (none))))) else (none)) else (none)) = some r := by first | (rw [hji39] at H; exact H) | (simp only [hji39] at H ⊢; exact H)
              (try rw [hji39] at A38)
              by_cases c40 : 0 ≤ (ji39)
              · rw [if_pos c40] at H
                have c40b0 := eq_true c40
                have c40b1 : decide (0 ≤ (ji39)) = true := decide_eq_true c40
                clear c40
                by_cases c41 : (ji39) ≤ (x8_17.length : Int)
                · rw [if_pos c41] at H
                  have c41b0 := eq_true c41
                  have c41b1 : decide ((ji39) ≤ (x8_17.length : Int)) = true := decide_eq_true c41
                  clear c41
                  obtain ⟨y139, hy139⟩ : ∃ y_ : List (S28), y_ = (x8_17.take ((ji39) : Int).toNat) := ⟨_, rfl⟩
                  replace H : ((arlist_Replace.f kj17 x7_5 y139).bind fun bt143 => ((arlist_Replace.f kj17 bt143.1 (x8_17.drop ((ji39) : Int).toNat)).bind fun bt151 => ((arlist_Delete.f x7_5 x10_17).bind fun bt155 => (if (ji39) ≤ (x10_17.length : Int) then ((arlist_Delete.f x7_5 (x10_17.take ((ji39) : Int).toNat)).bind fun bt163 => (if bt163.2 = 0 then ((arlist_Delete.f bt163.1 (x10_17.drop ((ji39) : Int).toNat)).bind fun bt171 => (graverlaw23_ArlistSplits.j5 kj17 t135 t136 bt151.1 bt151.2 bt155.1 bt155.2 bt171.1 bt171.2)) else (graverlaw23_ArlistSplits.j5 kj17 t135 t136 bt151.1 bt151.2 bt155.1 bt155.2 bt163.1 bt163.2))) else (none))))) = some r := by first | (rw [hy139]; with_reducible exact H) | (have H2_ := (Option.bind_some _ _).symm.trans H; rw [hy139]; with_reducible exact H2_) | (have H2_ := (Option.bind_some _ _).symm.trans H; with_reducible exact H2_) | with_reducible exact H | (rw [hy139]; exact H) | exact H
                  have Ny139 := Aside0.mk hy139
                  clear hy139
                  replace H := Option.bind_eq_some_iff.mp H
                  obtain ⟨⟨t143, t144⟩, A420, H⟩ := H
                  replace H : ((arlist_Replace.f kj17 t143 (x8_17.drop ((ji39) : Int).toNat)).bind fun bt151 => ((arlist_Delete.f x7_5 x10_17).bind fun bt155 => (if (ji39) ≤ (x10_17.length : Int) then ((arlist_Delete.f x7_5 (x10_17.take ((ji39) : Int).toNat)).bind fun bt163 => (if bt163.2 = 0 then ((arlist_Delete.f bt163.1 (x10_17.drop ((ji39) : Int).toNat)).bind fun bt171 => (graverlaw23_ArlistSplits.j5 kj17 t135 t136 bt151.1 bt151.2 bt155.1 bt155.2 bt171.1 bt171.2)) else (graverlaw23_ArlistSplits.j5 kj17 t135 t136 bt151.1 bt151.2 bt155.1 bt155.2 bt163.1 bt163.2))) else (none)))) = some r := H
                  have A42 := Aside0.mk A420
                  clear A420
                  have c43b0 := eq_true (of_decide_eq_true (by first | (with_reducible assumption) | assumption) : 0 ≤ (ji39))
                  have c44b0 := eq_true (of_decide_eq_true (by first | (with_reducible assumption) | assumption) : (ji39) ≤ (x8_17.length : Int))
                  obtain ⟨y147, hy147⟩ : ∃ y_ : List (S28), y_ = (x8_17.drop ((ji39) : Int).toNat) := ⟨_, rfl⟩
                  replace H : ((arlist_Replace.f kj17 t143 y147).bind fun bt151 => ((arlist_Delete.f x7_5 x10_17).bind fun bt155 => (if (ji39) ≤ (x10_17.length : Int) then ((arlist_Delete.f x7_5 (x10_17.take ((ji39) : Int).toNat)).bind fun bt163 => (if bt163.2 = 0 then ((arlist_Delete.f bt163.1 (x10_17.drop ((ji39) : Int).toNat)).bind fun bt171 => (graverlaw23_ArlistSplits.j5 kj17 t135 t136 bt151.1 bt151.2 bt155.1 bt155.2 bt171.1 bt171.2)) else (graverlaw23_ArlistSplits.j5 kj17 t135 t136 bt151.1 bt151.2 bt155.1 bt155.2 bt163.1 bt163.2))) else (none)))) = some r := by first | (rw [hy147]; with_reducible exact H) | (have H2_ := (Option.bind_some _ _).symm.trans H; rw [hy147]; with_reducible exact H2_) | (have H2_ := (Option.bind_some _ _).symm.trans H; with_reducible exact H2_) | with_reducible exact H | (rw [hy147]; exact H) | exact H
                  have Ny147 := Aside0.mk hy147
                  clear hy147
                  replace H := Option.bind_eq_some_iff.mp H
                  obtain ⟨⟨t151, t152⟩, A450, H⟩ := H
                  replace H : ((arlist_Delete.f x7_5 x10_17).bind fun bt155 => (if (ji39) ≤ (x10_17.length : Int) then ((arlist_Delete.f x7_5 (x10_17.take ((ji39) : Int).toNat)).bind fun bt163 => (if bt163.2 = 0 then ((arlist_Delete.f bt163.1 (x10_17.drop ((ji39) : Int).toNat)).bind fun bt171 => (graverlaw23_ArlistSplits.j5 kj17 t135 t136 t151 t152 bt155.1 bt155.2 bt171.1 bt171.2)) else (graverlaw23_ArlistSplits.j5 kj17 t135 t136 t151 t152 bt155.1 bt155.2 bt163.1 bt163.2))) else (none))) = some r := H
                  have A45 := Aside0.mk A450
                  clear A450
                  replace H := Option.bind_eq_some_iff.mp H
                  obtain ⟨⟨t155, t156⟩, A460, H⟩ := H
                  replace H : (if (ji39) ≤ (x10_17.length : Int) then ((arlist_Delete.f x7_5 (x10_17.take ((ji39) : Int).toNat)).bind fun bt163 => (if bt163.2 = 0 then ((arlist_Delete.f bt163.1 (x10_17.drop ((ji39) : Int).toNat)).bind fun bt171 => (graverlaw23_ArlistSplits.j5 kj17 t135 t136 t151 t152 t155 t156 bt171.1 bt171.2)) else (graverlaw23_ArlistSplits.j5 kj17 t135 t136 t151 t152 t155 t156 bt163.1 bt163.2))) else (none)) = some r := H
                  have A46 := Aside0.mk A460
                  clear A460
                  have c47b0 := eq_true (of_decide_eq_true (by first | (with_reducible assumption) | assumption) : 0 ≤ (ji39))
                  by_cases c48 : (ji39) ≤ (x10_17.length : Int)
                  · rw [if_pos c48] at H
                    have c48b0 := eq_true c48
                    have c48b1 : decide ((ji39) ≤ (x10_17.length : Int)) = true := decide_eq_true c48
                    clear c48
                    obtain ⟨y159, hy159⟩ : ∃ y_ : List ByteArray, y_ = (x10_17.take ((ji39) : Int).toNat) := ⟨_, rfl⟩
                    replace H : ((arlist_Delete.f x7_5 y159).bind fun bt163 => (if bt163.2 = 0 then ((arlist_Delete.f bt163.1 (x10_17.drop ((ji39) : Int).toNat)).bind fun bt171 => (graverlaw23_ArlistSplits.j5 kj17 t135 t136 t151 t152 t155 t156 bt171.1 bt171.2)) else (graverlaw23_ArlistSplits.j5 kj17 t135 t136 t151 t152 t155 t156 bt163.1 bt163.2))) = some r := by first | (rw [hy159]; with_reducible exact H) | (have H2_ := (Option.bind_some _ _).symm.trans H; rw [hy159]; with_reducible exact H2_) | (have H2_ := (Option.bind_some _ _).symm.trans H; with_reducible exact H2_) | with_reducible exact H | (rw [hy159]; exact H) | exact H
                    have Ny159 := Aside0.mk hy159
                    clear hy159
                    replace H := Option.bind_eq_some_iff.mp H
                    obtain ⟨⟨t163, t164⟩, A490, H⟩ := H
                    replace H : (if t164 = 0 then ((arlist_Delete.f t163 (x10_17.drop ((ji39) : Int).toNat)).bind fun bt171 => (graverlaw23_ArlistSplits.j5 kj17 t135 t136 t151 t152 t155 t156 bt171.1 bt171.2)) else (graverlaw23_ArlistSplits.j5 kj17 t135 t136 t151 t152 t155 t156 t163 t164)) = some r := H
                    have A49 := Aside0.mk A490
                    clear A490
                    have HC50 := Aside0.mk H
                    clear H
                    obtain ⟨Ao51, co51, eo51⟩ := Kd.R_slice HO_8.out
                    subst eo51
                    obtain ⟨Ao52, co52, eo52⟩ := Kd.R_slice HO_7.out
                    subst eo52
                    go_upto_if 154 with (first | ((with_reducible refine gate_callee (f := 9) rfl ?_); refine goesL_ (some 120) rfl rfl Try.func9 (by kernel_rfl) rfl #[.slice Ao52 x7_5.length co52, .slice Ao51 x8_17.length co51] rfl (by (try simp only [List.map_toArray, List.map_cons, List.map_nil]); first | done | rfl | (simp only [List.length_drop, List.length_take]; rfl)) ?_; (with_reducible refine (arlist_Replace.calls kj17 _ _ x7_5 _ _ x8_17 t135 t136 _ ?side1 ?side2 ?side3 ?side4 A38.out).mono ?_); (case side1 => repeat (first | exact (Kd.R_reads' HO_7.out).2.2 | (with_reducible refine Kd.C_alloc ?_ _) | (with_reducible refine Kd.C_drewN ?_ _) | (with_reducible refine Kd.C_drew ?_))); (case side2 => exact (Kd.R_reads' HO_7.out).2.1); (case side3 => repeat (first | exact (Kd.R_reads' HO_8.out).2.2 | (with_reducible refine Kd.C_alloc ?_ _) | (with_reducible refine Kd.C_drewN ?_ _) | (with_reducible refine Kd.C_drew ?_))); (case side4 => exact (Kd.R_reads' HO_8.out).2.1); rintro e w53 ⟨v137, rfl, ho0, hb⟩; refine ⟨_, rfl, ?_⟩; have n0_ := Aside0.mk (Kd.R_elder' (by (with_reducible repeat (first | apply Kd.R_alloc | apply Kd.R_drewN | apply Kd.R_drew)); exact HO_7.out) (Kd.R_base ho0) hb); have n1_ := Aside0.mk (Kd.R_elder' (by (with_reducible repeat (first | apply Kd.R_alloc | apply Kd.R_drewN | apply Kd.R_drew)); exact HO_8.out) (Kd.R_base ho0) hb); have n2_ := Aside0.mk (Kd.R_below (by (with_reducible repeat (first | apply Kd.R_alloc | apply Kd.R_drewN | apply Kd.R_drew)); exact HO_10.out) hb); have n3_ := Aside0.mk (Kd.R_lower (Kd.R_new' (Kd.R_new' ho0 (Kd.R_lt (by (with_reducible repeat (first | apply Kd.R_alloc | apply Kd.R_drewN | apply Kd.R_drew)); exact HO_7.out))) (Kd.R_lt (by (with_reducible repeat (first | apply Kd.R_alloc | apply Kd.R_drewN | apply Kd.R_drew)); exact HO_8.out))) (below_size (by repeat (first | (with_reducible first | exact HB.out | apply below_alloc | apply pw_below_drewN | apply below_drew1) | exact HB.out)))); have n4_ := Aside0.mk (below_step (by repeat (first | (with_reducible first | exact HB.out | apply below_alloc | apply pw_below_drewN | apply below_drew1) | exact HB.out)) hb); clear HO_7; clear HO_8; clear HO_10; clear HB; have HO_7 := n0_; have HO_8 := n1_; have HO_10 := n2_; have HO138 := n3_; have HB := n4_; clear n0_ n1_ n2_ n3_ n4_; (try clear hb); (try clear hb2); (try clear hk); (try clear hi); (try clear ho0); have q54 : ((ji39) : Int) ≤ ((x8_17.length : Int) : Int) := of_decide_eq_true (by first | (with_reducible assumption) | assumption); obtain ⟨i054, hi054, _, hsz54, _⟩ := info_parts info28; have hroom54 : x8_17.length ≤ co51 := (Kd.R_reads' HO_8.out).2.1; have hC54 : Kd.C k28 _ Ao51 x8_17.length x8_17 := (Kd.R_reads' HO_8.out).2.2; have hcut54 := cut_to (P := Try.prog) 24 28 .i64 Try.underlying24 hi054 Ao51 x8_17.length co51 (ji39) (of_decide_eq_true (by first | (with_reducible assumption) | assumption)) q54 hroom54; have hr54 := Kd.C_take (m := ((ji39) : Int).toNat) hC54 (by omega); have hy54 : y139.length = ((ji39) : Int).toNat := (by rw [Ny139.out, List.length_take]; omega); rw [← Ny139.out] at hr54; rw [← hy54] at hcut54; have HR142 := Aside0.mk hr54; have HC142 := Aside0.mk (show y139.length ≤ co51 from by omega); clear hr54 hC54 hroom54 hi054 hsz54; have KY54 := Aside0.mk hy54; clear hy54; have KL54 := Aside0.mk (show ((ji39) : Int).toNat ≤ x8_17.length from by omega); replace q54 := eq_true q54) | ((with_reducible refine gate_callee (f := 9) rfl ?_); refine goesL_ (some 128) rfl rfl Try.func9 (by kernel_rfl) rfl #[.slice Ao52 x7_5.length co52, .slice Ao51 y139.length co51] rfl (by (try simp only [List.map_toArray, List.map_cons, List.map_nil]); first | done | rfl | (simp only [List.length_drop, List.length_take]; rfl)) ?_; (with_reducible refine (arlist_Replace.calls kj17 _ _ x7_5 _ _ y139 t143 t144 _ ?side1 ?side2 ?side3 ?side4 A42.out).mono ?_); (case side1 => repeat (first | exact (Kd.R_reads' HO_7.out).2.2 | (with_reducible refine Kd.C_alloc ?_ _) | (with_reducible refine Kd.C_drewN ?_ _) | (with_reducible refine Kd.C_drew ?_))); (case side2 => exact (Kd.R_reads' HO_7.out).2.1); (case side3 => repeat (first | exact (by repeat (first | (with_reducible exact HR142.out) | (with_reducible refine Kd.C_alloc ?_ _) | (with_reducible refine Kd.C_drewN ?_ _) | (with_reducible refine Kd.C_drew ?_) | exact HR142.out)) | (with_reducible refine Kd.C_alloc ?_ _) | (with_reducible refine Kd.C_drewN ?_ _) | (with_reducible refine Kd.C_drew ?_))); (case side4 => exact HC142.out); rintro e w55 ⟨v145, rfl, ho0, hb⟩; refine ⟨_, rfl, ?_⟩; have n0_ := Aside0.mk (Kd.R_elder' (by (with_reducible repeat (first | apply Kd.R_alloc | apply Kd.R_drewN | apply Kd.R_drew)); exact HO_7.out) (Kd.R_base ho0) hb); have n1_ := Aside0.mk (Kd.R_elder' (by (with_reducible repeat (first | apply Kd.R_alloc | apply Kd.R_drewN | apply Kd.R_drew)); exact HO_8.out) (Kd.R_base ho0) hb); have n2_ := Aside0.mk (Kd.R_below (by (with_reducible repeat (first | apply Kd.R_alloc | apply Kd.R_drewN | apply Kd.R_drew)); exact HO_10.out) hb); have n3_ := Aside0.mk (Kd.R_elder' (by (with_reducible repeat (first | apply Kd.R_alloc | apply Kd.R_drewN | apply Kd.R_drew)); exact HO138.out) (Kd.R_base ho0) hb); have n4_ := Aside0.mk (Kd.R_lower (Kd.R_new' (Kd.R_new' (Kd.R_new' ho0 (Kd.R_lt (by (with_reducible repeat (first | apply Kd.R_alloc | apply Kd.R_drewN | apply Kd.R_drew)); exact HO_7.out))) (Kd.R_lt (by (with_reducible repeat (first | apply Kd.R_alloc | apply Kd.R_drewN | apply Kd.R_drew)); exact HO_8.out))) (Kd.R_lt (by (with_reducible repeat (first | apply Kd.R_alloc | apply Kd.R_drewN | apply Kd.R_drew)); exact HO138.out))) (below_size (by repeat (first | (with_reducible first | exact HB.out | apply below_alloc | apply pw_below_drewN | apply below_drew1) | exact HB.out)))); have n5_ := Aside0.mk (Kd.C_below (by repeat (first | (with_reducible exact HR142.out) | (with_reducible refine Kd.C_alloc ?_ _) | (with_reducible refine Kd.C_drewN ?_ _) | (with_reducible refine Kd.C_drew ?_) | exact HR142.out)) hb); have n6_ := Aside0.mk (below_step (by repeat (first | (with_reducible first | exact HB.out | apply below_alloc | apply pw_below_drewN | apply below_drew1) | exact HB.out)) hb); clear HO_7; clear HO_8; clear HO_10; clear HO138; clear HR142; clear HB; have HO_7 := n0_; have HO_8 := n1_; have HO_10 := n2_; have HO138 := n3_; have HO146 := n4_; have HR142 := n5_; have HB := n6_; clear n0_ n1_ n2_ n3_ n4_ n5_ n6_; (try clear hb); (try clear hb2); (try clear hk); (try clear hi); (try clear ho0); have q56 : ((ji39) : Int) ≤ ((x8_17.length : Int) : Int) := of_decide_eq_true (by first | (with_reducible assumption) | assumption); obtain ⟨i056, hi056, _, hsz56, _⟩ := info_parts info28; have hroom56 : x8_17.length ≤ co51 := (Kd.R_reads' HO_8.out).2.1; have hC56 : Kd.C k28 _ Ao51 x8_17.length x8_17 := (Kd.R_reads' HO_8.out).2.2; have q056 : (0 : Int) ≤ ((ji39) : Int) := of_decide_eq_true (by first | (with_reducible assumption) | assumption); have hcut56 := cut_from (P := Try.prog) 24 28 .i64 Try.underlying24 hi056 6 hsz56 Ao51 x8_17.length co51 (ji39) q056 q56; have hr56 := Kd.C_drop (m := ((ji39) : Int).toNat) (c := co51) hC56 (by omega) hroom56; obtain ⟨A56, hA56⟩ : ∃ A1, A1 = (if co51 = ((ji39) : Int).toNat then Ao51 else (Ao51 : Option Addr).map (·.add (((ji39) : Int).toNat * 6))) := ⟨_, rfl⟩; obtain ⟨c56, hc56⟩ : ∃ c1, c1 = co51 - ((ji39) : Int).toNat := ⟨_, rfl⟩; have hy56 : y147.length = x8_17.length - ((ji39) : Int).toNat := (by rw [Ny147.out, List.length_drop] <;> omega); rw [show (x8_17).drop ((ji39) : Int).toNat = y147 from Ny147.out.symm] at hr56; replace hr56 : Kd.C k28 _ A56 y147.length y147 := (by rw [hA56]; exact hr56); rw [← hy56, ← hA56, ← hc56] at hcut56; have HR150 := Aside0.mk hr56; have HC150 := Aside0.mk (show y147.length ≤ c56 from by rw [hy56, hc56]; exact Nat.sub_le_sub_right hroom56 _); clear hr56 hC56 hroom56 hi056 hsz56 hc56; have KY56 := Aside0.mk hy56; have KA56 := Aside0.mk hA56; clear hy56 hA56; have KL56 := Aside0.mk (show ((ji39) : Int).toNat ≤ x8_17.length from by omega); replace q56 := eq_true q56; obtain ⟨Ao57, co57, eo57⟩ := Kd.R_slice HO146.out; subst eo57) | ((with_reducible refine gate_callee (f := 9) rfl ?_); refine goesL_ (some 136) rfl rfl Try.func9 (by kernel_rfl) rfl #[.slice Ao57 t143.length co57, .slice A56 y147.length c56] rfl (by (try simp only [List.map_toArray, List.map_cons, List.map_nil]); first | done | rfl | (simp only [List.length_drop, List.length_take]; rfl)) ?_; (with_reducible refine (arlist_Replace.calls kj17 _ _ t143 _ _ y147 t151 t152 _ ?side1 ?side2 ?side3 ?side4 A45.out).mono ?_); (case side1 => repeat (first | exact (Kd.R_reads' HO146.out).2.2 | (with_reducible refine Kd.C_alloc ?_ _) | (with_reducible refine Kd.C_drewN ?_ _) | (with_reducible refine Kd.C_drew ?_))); (case side2 => exact (Kd.R_reads' HO146.out).2.1); (case side3 => repeat (first | exact (by repeat (first | (with_reducible exact HR150.out) | (with_reducible refine Kd.C_alloc ?_ _) | (with_reducible refine Kd.C_drewN ?_ _) | (with_reducible refine Kd.C_drew ?_) | exact HR150.out)) | (with_reducible refine Kd.C_alloc ?_ _) | (with_reducible refine Kd.C_drewN ?_ _) | (with_reducible refine Kd.C_drew ?_))); (case side4 => exact HC150.out); rintro e w58 ⟨v153, rfl, ho0, hb⟩; refine ⟨_, rfl, ?_⟩; have n0_ := Aside0.mk (Kd.R_elder' (by (with_reducible repeat (first | apply Kd.R_alloc | apply Kd.R_drewN | apply Kd.R_drew)); exact HO_7.out) (Kd.R_base ho0) hb); have n1_ := Aside0.mk (Kd.R_elder' (by (with_reducible repeat (first | apply Kd.R_alloc | apply Kd.R_drewN | apply Kd.R_drew)); exact HO_8.out) (Kd.R_base ho0) hb); have n2_ := Aside0.mk (Kd.R_below (by (with_reducible repeat (first | apply Kd.R_alloc | apply Kd.R_drewN | apply Kd.R_drew)); exact HO_10.out) hb); have n3_ := Aside0.mk (Kd.R_elder' (by (with_reducible repeat (first | apply Kd.R_alloc | apply Kd.R_drewN | apply Kd.R_drew)); exact HO138.out) (Kd.R_base ho0) hb); have n4_ := Aside0.mk (Kd.R_elder' (by (with_reducible repeat (first | apply Kd.R_alloc | apply Kd.R_drewN | apply Kd.R_drew)); exact HO146.out) (Kd.R_base ho0) hb); have n5_ := Aside0.mk (Kd.R_lower (Kd.R_new' (Kd.R_new' (Kd.R_new' (Kd.R_new' ho0 (Kd.R_lt (by (with_reducible repeat (first | apply Kd.R_alloc | apply Kd.R_drewN | apply Kd.R_drew)); exact HO_7.out))) (Kd.R_lt (by (with_reducible repeat (first | apply Kd.R_alloc | apply Kd.R_drewN | apply Kd.R_drew)); exact HO_8.out))) (Kd.R_lt (by (with_reducible repeat (first | apply Kd.R_alloc | apply Kd.R_drewN | apply Kd.R_drew)); exact HO138.out))) (Kd.R_lt (by (with_reducible repeat (first | apply Kd.R_alloc | apply Kd.R_drewN | apply Kd.R_drew)); exact HO146.out))) (below_size (by repeat (first | (with_reducible first | exact HB.out | apply below_alloc | apply pw_below_drewN | apply below_drew1) | exact HB.out)))); have n6_ := Aside0.mk (Kd.C_below (by repeat (first | (with_reducible exact HR142.out) | (with_reducible refine Kd.C_alloc ?_ _) | (with_reducible refine Kd.C_drewN ?_ _) | (with_reducible refine Kd.C_drew ?_) | exact HR142.out)) hb); have n7_ := Aside0.mk (Kd.C_below (by repeat (first | (with_reducible exact HR150.out) | (with_reducible refine Kd.C_alloc ?_ _) | (with_reducible refine Kd.C_drewN ?_ _) | (with_reducible refine Kd.C_drew ?_) | exact HR150.out)) hb); have n8_ := Aside0.mk (below_step (by repeat (first | (with_reducible first | exact HB.out | apply below_alloc | apply pw_below_drewN | apply below_drew1) | exact HB.out)) hb); clear HO_7; clear HO_8; clear HO_10; clear HO138; clear HO146; clear HR142; clear HR150; clear HB; have HO_7 := n0_; have HO_8 := n1_; have HO_10 := n2_; have HO138 := n3_; have HO146 := n4_; have HO154 := n5_; have HR142 := n6_; have HR150 := n7_; have HB := n8_; clear n0_ n1_ n2_ n3_ n4_ n5_ n6_ n7_ n8_; (try clear hb); (try clear hb2); (try clear hk); (try clear hi); (try clear ho0); obtain ⟨Ao59, co59, eo59⟩ := Kd.R_slice HO_10.out; subst eo59) | ((with_reducible refine gate_callee (f := 10) rfl ?_); refine goesL_ (some 142) rfl rfl Try.func10 (by kernel_rfl) rfl #[.slice Ao52 x7_5.length co52, .slice Ao59 x10_17.length co59] rfl (by (try simp only [List.map_toArray, List.map_cons, List.map_nil]); first | done | rfl | (simp only [List.length_drop, List.length_take]; rfl)) ?_; (with_reducible refine (arlist_Delete.calls _ _ x7_5 _ _ x10_17 t155 t156 _ ?side1 ?side2 ?side3 ?side4 A46.out).mono ?_); (case side1 => repeat (first | exact (Kd.R_reads' HO_7.out).2.2 | (with_reducible refine Kd.C_alloc ?_ _) | (with_reducible refine Kd.C_drewN ?_ _) | (with_reducible refine Kd.C_drew ?_))); (case side2 => exact (Kd.R_reads' HO_7.out).2.1); (case side3 => repeat (first | exact (Kd.R_reads' HO_10.out).2.2 | (with_reducible refine Kd.C_alloc ?_ _) | (with_reducible refine Kd.C_drewN ?_ _) | (with_reducible refine Kd.C_drew ?_))); (case side4 => exact (Kd.R_reads' HO_10.out).2.1); rintro e w60 ⟨v157, rfl, ho0, hb⟩; refine ⟨_, rfl, ?_⟩; have n0_ := Aside0.mk (Kd.R_elder' (by (with_reducible repeat (first | apply Kd.R_alloc | apply Kd.R_drewN | apply Kd.R_drew)); exact HO_7.out) (Kd.R_base ho0) hb); have n1_ := Aside0.mk (Kd.R_elder' (by (with_reducible repeat (first | apply Kd.R_alloc | apply Kd.R_drewN | apply Kd.R_drew)); exact HO_8.out) (Kd.R_base ho0) hb); have n2_ := Aside0.mk (Kd.R_below (by (with_reducible repeat (first | apply Kd.R_alloc | apply Kd.R_drewN | apply Kd.R_drew)); exact HO_10.out) hb); have n3_ := Aside0.mk (Kd.R_elder' (by (with_reducible repeat (first | apply Kd.R_alloc | apply Kd.R_drewN | apply Kd.R_drew)); exact HO138.out) (Kd.R_base ho0) hb); have n4_ := Aside0.mk (Kd.R_elder' (by (with_reducible repeat (first | apply Kd.R_alloc | apply Kd.R_drewN | apply Kd.R_drew)); exact HO146.out) (Kd.R_base ho0) hb); have n5_ := Aside0.mk (Kd.R_elder' (by (with_reducible repeat (first | apply Kd.R_alloc | apply Kd.R_drewN | apply Kd.R_drew)); exact HO154.out) (Kd.R_base ho0) hb); have n6_ := Aside0.mk (Kd.R_lower (Kd.R_new' (Kd.R_new' (Kd.R_new' (Kd.R_new' (Kd.R_new' ho0 (Kd.R_lt (by (with_reducible repeat (first | apply Kd.R_alloc | apply Kd.R_drewN | apply Kd.R_drew)); exact HO_7.out))) (Kd.R_lt (by (with_reducible repeat (first | apply Kd.R_alloc | apply Kd.R_drewN | apply Kd.R_drew)); exact HO_8.out))) (Kd.R_lt (by (with_reducible repeat (first | apply Kd.R_alloc | apply Kd.R_drewN | apply Kd.R_drew)); exact HO138.out))) (Kd.R_lt (by (with_reducible repeat (first | apply Kd.R_alloc | apply Kd.R_drewN | apply Kd.R_drew)); exact HO146.out))) (Kd.R_lt (by (with_reducible repeat (first | apply Kd.R_alloc | apply Kd.R_drewN | apply Kd.R_drew)); exact HO154.out))) (below_size (by repeat (first | (with_reducible first | exact HB.out | apply below_alloc | apply pw_below_drewN | apply below_drew1) | exact HB.out)))); have n7_ := Aside0.mk (Kd.C_below (by repeat (first | (with_reducible exact HR142.out) | (with_reducible refine Kd.C_alloc ?_ _) | (with_reducible refine Kd.C_drewN ?_ _) | (with_reducible refine Kd.C_drew ?_) | exact HR142.out)) hb); have n8_ := Aside0.mk (Kd.C_below (by repeat (first | (with_reducible exact HR150.out) | (with_reducible refine Kd.C_alloc ?_ _) | (with_reducible refine Kd.C_drewN ?_ _) | (with_reducible refine Kd.C_drew ?_) | exact HR150.out)) hb); have n9_ := Aside0.mk (below_step (by repeat (first | (with_reducible first | exact HB.out | apply below_alloc | apply pw_below_drewN | apply below_drew1) | exact HB.out)) hb); clear HO_7; clear HO_8; clear HO_10; clear HO138; clear HO146; clear HO154; clear HR142; clear HR150; clear HB; have HO_7 := n0_; have HO_8 := n1_; have HO_10 := n2_; have HO138 := n3_; have HO146 := n4_; have HO154 := n5_; have HO158 := n6_; have HR142 := n7_; have HR150 := n8_; have HB := n9_; clear n0_ n1_ n2_ n3_ n4_ n5_ n6_ n7_ n8_ n9_; (try clear hb); (try clear hb2); (try clear hk); (try clear hi); (try clear ho0); have q61 : ((ji39) : Int) ≤ ((x10_17.length : Int) : Int) := of_decide_eq_true (by first | (with_reducible assumption) | assumption); obtain ⟨i061, hi061, _, hsz61, _⟩ := info_parts info9; have hroom61 : x10_17.length ≤ co59 := (Kd.R_reads' HO_10.out).2.1; have hC61 : Kd.C Kd.string _ Ao59 x10_17.length x10_17 := (Kd.R_reads' HO_10.out).2.2; have hcut61 := cut_to (P := Try.prog) 22 9 .i64 Try.underlying22 hi061 Ao59 x10_17.length co59 (ji39) (of_decide_eq_true (by first | (with_reducible assumption) | assumption)) q61 hroom61; have hr61 := Kd.C_take (m := ((ji39) : Int).toNat) hC61 (by omega); have hy61 : y159.length = ((ji39) : Int).toNat := (by rw [Ny159.out, List.length_take]; omega); rw [← Ny159.out] at hr61; rw [← hy61] at hcut61; have HR162 := Aside0.mk hr61; have HC162 := Aside0.mk (show y159.length ≤ co59 from by omega); clear hr61 hC61 hroom61 hi061 hsz61; have KY61 := Aside0.mk hy61; clear hy61; have KL61 := Aside0.mk (show ((ji39) : Int).toNat ≤ x10_17.length from by omega); replace q61 := eq_true q61) | ((with_reducible refine gate_callee (f := 10) rfl ?_); refine goesL_ (some 150) rfl rfl Try.func10 (by kernel_rfl) rfl #[.slice Ao52 x7_5.length co52, .slice Ao59 y159.length co59] rfl (by (try simp only [List.map_toArray, List.map_cons, List.map_nil]); first | done | rfl | (simp only [List.length_drop, List.length_take]; rfl)) ?_; (with_reducible refine (arlist_Delete.calls _ _ x7_5 _ _ y159 t163 t164 _ ?side1 ?side2 ?side3 ?side4 A49.out).mono ?_); (case side1 => repeat (first | exact (Kd.R_reads' HO_7.out).2.2 | (with_reducible refine Kd.C_alloc ?_ _) | (with_reducible refine Kd.C_drewN ?_ _) | (with_reducible refine Kd.C_drew ?_))); (case side2 => exact (Kd.R_reads' HO_7.out).2.1); (case side3 => repeat (first | exact (by repeat (first | (with_reducible exact HR162.out) | (with_reducible refine Kd.C_alloc ?_ _) | (with_reducible refine Kd.C_drewN ?_ _) | (with_reducible refine Kd.C_drew ?_) | exact HR162.out)) | (with_reducible refine Kd.C_alloc ?_ _) | (with_reducible refine Kd.C_drewN ?_ _) | (with_reducible refine Kd.C_drew ?_))); (case side4 => exact HC162.out); rintro e w62 ⟨v165, rfl, ho0, hb⟩; refine ⟨_, rfl, ?_⟩; have n0_ := Aside0.mk (Kd.R_elder' (by (with_reducible repeat (first | apply Kd.R_alloc | apply Kd.R_drewN | apply Kd.R_drew)); exact HO_7.out) (Kd.R_base ho0) hb); have n1_ := Aside0.mk (Kd.R_elder' (by (with_reducible repeat (first | apply Kd.R_alloc | apply Kd.R_drewN | apply Kd.R_drew)); exact HO_8.out) (Kd.R_base ho0) hb); have n2_ := Aside0.mk (Kd.R_below (by (with_reducible repeat (first | apply Kd.R_alloc | apply Kd.R_drewN | apply Kd.R_drew)); exact HO_10.out) hb); have n3_ := Aside0.mk (Kd.R_elder' (by (with_reducible repeat (first | apply Kd.R_alloc | apply Kd.R_drewN | apply Kd.R_drew)); exact HO138.out) (Kd.R_base ho0) hb); have n4_ := Aside0.mk (Kd.R_elder' (by (with_reducible repeat (first | apply Kd.R_alloc | apply Kd.R_drewN | apply Kd.R_drew)); exact HO146.out) (Kd.R_base ho0) hb); have n5_ := Aside0.mk (Kd.R_elder' (by (with_reducible repeat (first | apply Kd.R_alloc | apply Kd.R_drewN | apply Kd.R_drew)); exact HO154.out) (Kd.R_base ho0) hb); have n6_ := Aside0.mk (Kd.R_elder' (by (with_reducible repeat (first | apply Kd.R_alloc | apply Kd.R_drewN | apply Kd.R_drew)); exact HO158.out) (Kd.R_base ho0) hb); have n7_ := Aside0.mk (Kd.R_lower (Kd.R_new' (Kd.R_new' (Kd.R_new' (Kd.R_new' (Kd.R_new' (Kd.R_new' ho0 (Kd.R_lt (by (with_reducible repeat (first | apply Kd.R_alloc | apply Kd.R_drewN | apply Kd.R_drew)); exact HO_7.out))) (Kd.R_lt (by (with_reducible repeat (first | apply Kd.R_alloc | apply Kd.R_drewN | apply Kd.R_drew)); exact HO_8.out))) (Kd.R_lt (by (with_reducible repeat (first | apply Kd.R_alloc | apply Kd.R_drewN | apply Kd.R_drew)); exact HO138.out))) (Kd.R_lt (by (with_reducible repeat (first | apply Kd.R_alloc | apply Kd.R_drewN | apply Kd.R_drew)); exact HO146.out))) (Kd.R_lt (by (with_reducible repeat (first | apply Kd.R_alloc | apply Kd.R_drewN | apply Kd.R_drew)); exact HO154.out))) (Kd.R_lt (by (with_reducible repeat (first | apply Kd.R_alloc | apply Kd.R_drewN | apply Kd.R_drew)); exact HO158.out))) (below_size (by repeat (first | (with_reducible first | exact HB.out | apply below_alloc | apply pw_below_drewN | apply below_drew1) | exact HB.out)))); have n8_ := Aside0.mk (Kd.C_below (by repeat (first | (with_reducible exact HR142.out) | (with_reducible refine Kd.C_alloc ?_ _) | (with_reducible refine Kd.C_drewN ?_ _) | (with_reducible refine Kd.C_drew ?_) | exact HR142.out)) hb); have n9_ := Aside0.mk (Kd.C_below (by repeat (first | (with_reducible exact HR150.out) | (with_reducible refine Kd.C_alloc ?_ _) | (with_reducible refine Kd.C_drewN ?_ _) | (with_reducible refine Kd.C_drew ?_) | exact HR150.out)) hb); have n10_ := Aside0.mk (Kd.C_below (by repeat (first | (with_reducible exact HR162.out) | (with_reducible refine Kd.C_alloc ?_ _) | (with_reducible refine Kd.C_drewN ?_ _) | (with_reducible refine Kd.C_drew ?_) | exact HR162.out)) hb); have n11_ := Aside0.mk (below_step (by repeat (first | (with_reducible first | exact HB.out | apply below_alloc | apply pw_below_drewN | apply below_drew1) | exact HB.out)) hb); clear HO_7; clear HO_8; clear HO_10; clear HO138; clear HO146; clear HO154; clear HO158; clear HR142; clear HR150; clear HR162; clear HB; have HO_7 := n0_; have HO_8 := n1_; have HO_10 := n2_; have HO138 := n3_; have HO146 := n4_; have HO154 := n5_; have HO158 := n6_; have HO166 := n7_; have HR142 := n8_; have HR150 := n9_; have HR162 := n10_; have HB := n11_; clear n0_ n1_ n2_ n3_ n4_ n5_ n6_ n7_ n8_ n9_ n10_ n11_; (try clear hb); (try clear hb2); (try clear hk); (try clear hi); (try clear ho0)))
                    (try simp only [Act.put, List.setIfInBounds_toArray, List.set_cons_zero, List.set_cons_succ])
                    go_cut [23, 24] (fun v23 v24 wc => ∃ (kq : Nat) (x23_49 : List (S28)) (x24_49 : Int), v24 = .int .i64 x24_49 ∧ Aside0 (graverlaw23_ArlistSplits.j5 kq t135 t136 t151 t152 t155 t156 x23_49 x24_49 = some r) ∧ Aside0 (kq ≤ kj17) ∧ Aside0 (Kd.R k28 28 wc w.heap.size (fun k_ => some k_ ≠ (v153 : Value).ownBlock ∧ some k_ ≠ (v157 : Value).ownBlock ∧ some k_ ≠ (v23 : Value).ownBlock) v137 t135) ∧ Aside0 (Kd.R k28 28 wc w.heap.size (fun k_ => some k_ ≠ (v137 : Value).ownBlock ∧ some k_ ≠ (v157 : Value).ownBlock ∧ some k_ ≠ (v23 : Value).ownBlock) v153 t151) ∧ Aside0 (Kd.R k28 28 wc w.heap.size (fun k_ => some k_ ≠ (v137 : Value).ownBlock ∧ some k_ ≠ (v153 : Value).ownBlock ∧ some k_ ≠ (v23 : Value).ownBlock) v157 t155) ∧ Aside0 (Kd.R k28 28 wc w.heap.size (fun k_ => some k_ ≠ (v137 : Value).ownBlock ∧ some k_ ≠ (v153 : Value).ownBlock ∧ some k_ ≠ (v157 : Value).ownBlock) v23 x23_49) ∧ Aside0 (Below w.heap.size w wc))
                    case first =>
                      have H := HC50.out
                      clear HC50
                      by_cases c63 : t164 = 0
                      · rw [if_pos c63] at H
                        have c63b0 : (t164 == 0) = true := beq_iff_eq.mpr c63
                        have c63b1 : (t164 != 0) = false := bne_eq_false_iff_eq.mpr c63
                        clear c63
                        (first | rw [c63b0] | (simp only [i64_w, i32_w]; rw [c63b0]) | skip)
                        have c64b0 := eq_true (of_decide_eq_true (by first | (with_reducible assumption) | assumption) : 0 ≤ (ji39))
                        have c65b0 := eq_true (of_decide_eq_true (by first | (with_reducible assumption) | assumption) : (ji39) ≤ (x10_17.length : Int))
                        obtain ⟨y167, hy167⟩ : ∃ y_ : List ByteArray, y_ = (x10_17.drop ((ji39) : Int).toNat) := ⟨_, rfl⟩
                        replace H : ((arlist_Delete.f t163 y167).bind fun bt171 => (graverlaw23_ArlistSplits.j5 kj17 t135 t136 t151 t152 t155 t156 bt171.1 bt171.2)) = some r := by first | (rw [hy167]; with_reducible exact H) | (have H2_ := (Option.bind_some _ _).symm.trans H; rw [hy167]; with_reducible exact H2_) | (have H2_ := (Option.bind_some _ _).symm.trans H; with_reducible exact H2_) | with_reducible exact H | (rw [hy167]; exact H) | exact H
                        have Ny167 := Aside0.mk hy167
                        clear hy167
                        replace H := Option.bind_eq_some_iff.mp H
                        obtain ⟨⟨t171, t172⟩, A660, H⟩ := H
                        replace H : (graverlaw23_ArlistSplits.j5 kj17 t135 t136 t151 t152 t155 t156 t171 t172) = some r := H
                        have A66 := Aside0.mk A660
                        clear A660
                        have H' := Aside0.mk H
                        clear H
                        have q67 : ((ji39) : Int) ≤ ((x10_17.length : Int) : Int) := of_decide_eq_true (by first | (with_reducible assumption) | assumption)
                        obtain ⟨i067, hi067, _, hsz67, _⟩ := info_parts info9
                        have hroom67 : x10_17.length ≤ co59 := (Kd.R_reads' HO_10.out).2.1
                        have hC67 : Kd.C Kd.string _ Ao59 x10_17.length x10_17 := (Kd.R_reads' HO_10.out).2.2
                        have q067 : (0 : Int) ≤ ((ji39) : Int) := of_decide_eq_true (by first | (with_reducible assumption) | assumption)
                        have hcut67 := cut_from (P := Try.prog) 22 9 .i64 Try.underlying22 hi067 1 hsz67 Ao59 x10_17.length co59 (ji39) q067 q67
                        have hr67 := Kd.C_drop (m := ((ji39) : Int).toNat) (c := co59) hC67 (by omega) hroom67
                        obtain ⟨A67, hA67⟩ : ∃ A1, A1 = (if co59 = ((ji39) : Int).toNat then Ao59 else (Ao59 : Option Addr).map (·.add (((ji39) : Int).toNat * 1))) := ⟨_, rfl⟩
                        obtain ⟨c67, hc67⟩ : ∃ c1, c1 = co59 - ((ji39) : Int).toNat := ⟨_, rfl⟩
                        have hy67 : y167.length = x10_17.length - ((ji39) : Int).toNat := (by rw [Ny167.out, List.length_drop] <;> omega)
                        rw [show (x10_17).drop ((ji39) : Int).toNat = y167 from Ny167.out.symm] at hr67
                        replace hr67 : Kd.C Kd.string _ A67 y167.length y167 := (by rw [hA67]; exact hr67)
                        rw [← hy67, ← hA67, ← hc67] at hcut67
                        have HR170 := Aside0.mk hr67
                        have HC170 := Aside0.mk (show y167.length ≤ c67 from by rw [hy67, hc67]; exact Nat.sub_le_sub_right hroom67 _)
                        clear hr67 hC67 hroom67 hi067 hsz67 hc67
                        have KY67 := Aside0.mk hy67
                        have KA67 := Aside0.mk hA67
                        clear hy67 hA67
                        have KL67 := Aside0.mk (show ((ji39) : Int).toNat ≤ x10_17.length from by omega)
                        replace q67 := eq_true q67
                        obtain ⟨Ao68, co68, eo68⟩ := Kd.R_slice HO166.out
                        subst eo68
                        go_wp2_with (first | ((with_reducible refine gate_callee (f := 10) rfl ?_); refine goesL_ (some 160) rfl rfl Try.func10 (by kernel_rfl) rfl #[.slice Ao68 t163.length co68, .slice A67 y167.length c67] rfl (by (try simp only [List.map_toArray, List.map_cons, List.map_nil]); first | done | rfl | (simp only [List.length_drop, List.length_take]; rfl)) ?_; (with_reducible refine (arlist_Delete.calls _ _ t163 _ _ y167 t171 t172 _ ?side1 ?side2 ?side3 ?side4 A66.out).mono ?_); (case side1 => repeat (first | exact (Kd.R_reads' HO166.out).2.2 | (with_reducible refine Kd.C_alloc ?_ _) | (with_reducible refine Kd.C_drewN ?_ _) | (with_reducible refine Kd.C_drew ?_))); (case side2 => exact (Kd.R_reads' HO166.out).2.1); (case side3 => repeat (first | exact (by repeat (first | (with_reducible exact HR170.out) | (with_reducible refine Kd.C_alloc ?_ _) | (with_reducible refine Kd.C_drewN ?_ _) | (with_reducible refine Kd.C_drew ?_) | exact HR170.out)) | (with_reducible refine Kd.C_alloc ?_ _) | (with_reducible refine Kd.C_drewN ?_ _) | (with_reducible refine Kd.C_drew ?_))); (case side4 => exact HC170.out); rintro e w69 ⟨v173, rfl, ho0, hb⟩; refine ⟨_, rfl, ?_⟩; have n0_ := Aside0.mk (Kd.R_elder' (by (with_reducible repeat (first | apply Kd.R_alloc | apply Kd.R_drewN | apply Kd.R_drew)); exact HO_7.out) (Kd.R_base ho0) hb); have n1_ := Aside0.mk (Kd.R_elder' (by (with_reducible repeat (first | apply Kd.R_alloc | apply Kd.R_drewN | apply Kd.R_drew)); exact HO_8.out) (Kd.R_base ho0) hb); have n2_ := Aside0.mk (Kd.R_below (by (with_reducible repeat (first | apply Kd.R_alloc | apply Kd.R_drewN | apply Kd.R_drew)); exact HO_10.out) hb); have n3_ := Aside0.mk (Kd.R_elder' (by (with_reducible repeat (first | apply Kd.R_alloc | apply Kd.R_drewN | apply Kd.R_drew)); exact HO138.out) (Kd.R_base ho0) hb); have n4_ := Aside0.mk (Kd.R_elder' (by (with_reducible repeat (first | apply Kd.R_alloc | apply Kd.R_drewN | apply Kd.R_drew)); exact HO146.out) (Kd.R_base ho0) hb); have n5_ := Aside0.mk (Kd.R_elder' (by (with_reducible repeat (first | apply Kd.R_alloc | apply Kd.R_drewN | apply Kd.R_drew)); exact HO154.out) (Kd.R_base ho0) hb); have n6_ := Aside0.mk (Kd.R_elder' (by (with_reducible repeat (first | apply Kd.R_alloc | apply Kd.R_drewN | apply Kd.R_drew)); exact HO158.out) (Kd.R_base ho0) hb); have n7_ := Aside0.mk (Kd.R_elder' (by (with_reducible repeat (first | apply Kd.R_alloc | apply Kd.R_drewN | apply Kd.R_drew)); exact HO166.out) (Kd.R_base ho0) hb); have n8_ := Aside0.mk (Kd.R_lower (Kd.R_new' (Kd.R_new' (Kd.R_new' (Kd.R_new' (Kd.R_new' (Kd.R_new' (Kd.R_new' ho0 (Kd.R_lt (by (with_reducible repeat (first | apply Kd.R_alloc | apply Kd.R_drewN | apply Kd.R_drew)); exact HO_7.out))) (Kd.R_lt (by (with_reducible repeat (first | apply Kd.R_alloc | apply Kd.R_drewN | apply Kd.R_drew)); exact HO_8.out))) (Kd.R_lt (by (with_reducible repeat (first | apply Kd.R_alloc | apply Kd.R_drewN | apply Kd.R_drew)); exact HO138.out))) (Kd.R_lt (by (with_reducible repeat (first | apply Kd.R_alloc | apply Kd.R_drewN | apply Kd.R_drew)); exact HO146.out))) (Kd.R_lt (by (with_reducible repeat (first | apply Kd.R_alloc | apply Kd.R_drewN | apply Kd.R_drew)); exact HO154.out))) (Kd.R_lt (by (with_reducible repeat (first | apply Kd.R_alloc | apply Kd.R_drewN | apply Kd.R_drew)); exact HO158.out))) (Kd.R_lt (by (with_reducible repeat (first | apply Kd.R_alloc | apply Kd.R_drewN | apply Kd.R_drew)); exact HO166.out))) (below_size (by repeat (first | (with_reducible first | exact HB.out | apply below_alloc | apply pw_below_drewN | apply below_drew1) | exact HB.out)))); have n9_ := Aside0.mk (Kd.C_below (by repeat (first | (with_reducible exact HR142.out) | (with_reducible refine Kd.C_alloc ?_ _) | (with_reducible refine Kd.C_drewN ?_ _) | (with_reducible refine Kd.C_drew ?_) | exact HR142.out)) hb); have n10_ := Aside0.mk (Kd.C_below (by repeat (first | (with_reducible exact HR150.out) | (with_reducible refine Kd.C_alloc ?_ _) | (with_reducible refine Kd.C_drewN ?_ _) | (with_reducible refine Kd.C_drew ?_) | exact HR150.out)) hb); have n11_ := Aside0.mk (Kd.C_below (by repeat (first | (with_reducible exact HR162.out) | (with_reducible refine Kd.C_alloc ?_ _) | (with_reducible refine Kd.C_drewN ?_ _) | (with_reducible refine Kd.C_drew ?_) | exact HR162.out)) hb); have n12_ := Aside0.mk (Kd.C_below (by repeat (first | (with_reducible exact HR170.out) | (with_reducible refine Kd.C_alloc ?_ _) | (with_reducible refine Kd.C_drewN ?_ _) | (with_reducible refine Kd.C_drew ?_) | exact HR170.out)) hb); have n13_ := Aside0.mk (below_step (by repeat (first | (with_reducible first | exact HB.out | apply below_alloc | apply pw_below_drewN | apply below_drew1) | exact HB.out)) hb); clear HO_7; clear HO_8; clear HO_10; clear HO138; clear HO146; clear HO154; clear HO158; clear HO166; clear HR142; clear HR150; clear HR162; clear HR170; clear HB; have HO_7 := n0_; have HO_8 := n1_; have HO_10 := n2_; have HO138 := n3_; have HO146 := n4_; have HO154 := n5_; have HO158 := n6_; have HO166 := n7_; have HO174 := n8_; have HR142 := n9_; have HR150 := n10_; have HR162 := n11_; have HR170 := n12_; have HB := n13_; clear n0_ n1_ n2_ n3_ n4_ n5_ n6_ n7_ n8_ n9_ n10_ n11_ n12_ n13_; (try clear hb); (try clear hb2); (try clear hk); (try clear hi); (try clear ho0)))
                        first | go_meet | (simp only [← hji39]; go_meet)
                        case rel => exact ⟨_, (t171), (t172), (by first | rfl | (simp; done) | (simp [*]; done)), H', ⟨by have := HJ5.out; have := HJ17.out; first | omega | exact Nat.le_refl _⟩, ⟨by (with_reducible repeat (first | apply Kd.R_alloc | apply Kd.R_drewN | apply Kd.R_drew)); exact Kd.R_mono HO138.out (fun _ hk => ⟨hk.1.1.1.2, ⟨hk.1.1.2, hk.2⟩⟩)⟩, ⟨by (with_reducible repeat (first | apply Kd.R_alloc | apply Kd.R_drewN | apply Kd.R_drew)); exact Kd.R_mono HO154.out (fun _ hk => ⟨hk.1.1.1.1.2, ⟨hk.1.1.2, hk.2⟩⟩)⟩, ⟨by (with_reducible repeat (first | apply Kd.R_alloc | apply Kd.R_drewN | apply Kd.R_drew)); exact Kd.R_mono HO158.out (fun _ hk => ⟨hk.1.1.1.1.2, ⟨hk.1.1.2, hk.2⟩⟩)⟩, ⟨by (with_reducible repeat (first | apply Kd.R_alloc | apply Kd.R_drewN | apply Kd.R_drew)); exact Kd.R_mono HO174.out (fun _ hk => ⟨hk.1.1.1.1.2, ⟨hk.1.1.2, hk.1.2⟩⟩)⟩, ⟨by repeat (first | (with_reducible first | exact HB.out | apply below_alloc | apply pw_below_drewN | apply below_drew1) | exact HB.out)⟩⟩
                      · rw [if_neg c63] at H
                        have c63b0 : (t164 == 0) = false := beq_eq_false_iff_ne.mpr c63
                        have c63b1 : (t164 != 0) = true := bne_iff_ne.mpr c63
                        (first | rw [c63b0] | (simp only [i64_w, i32_w]; rw [c63b0]) | skip)
                        have H' := Aside0.mk H
                        clear H
                        go_wp2
                        first | go_meet | (simp only [← hji39]; go_meet)
                        case rel => exact ⟨_, (t163), (t164), (by first | rfl | (simp; done) | (simp [*]; done)), H', ⟨by have := HJ5.out; have := HJ17.out; first | omega | exact Nat.le_refl _⟩, ⟨by (with_reducible repeat (first | apply Kd.R_alloc | apply Kd.R_drewN | apply Kd.R_drew)); exact Kd.R_mono HO138.out (fun _ hk => ⟨hk.1.1.2, ⟨hk.1.2, hk.2⟩⟩)⟩, ⟨by (with_reducible repeat (first | apply Kd.R_alloc | apply Kd.R_drewN | apply Kd.R_drew)); exact Kd.R_mono HO154.out (fun _ hk => ⟨hk.1.1.1.2, ⟨hk.1.2, hk.2⟩⟩)⟩, ⟨by (with_reducible repeat (first | apply Kd.R_alloc | apply Kd.R_drewN | apply Kd.R_drew)); exact Kd.R_mono HO158.out (fun _ hk => ⟨hk.1.1.1.2, ⟨hk.1.2, hk.2⟩⟩)⟩, ⟨by (with_reducible repeat (first | apply Kd.R_alloc | apply Kd.R_drewN | apply Kd.R_drew)); exact Kd.R_mono HO166.out (fun _ hk => ⟨hk.1.1.1.2, ⟨hk.1.2, hk.2⟩⟩)⟩, ⟨by repeat (first | (with_reducible first | exact HB.out | apply below_alloc | apply pw_below_drewN | apply below_drew1) | exact HB.out)⟩⟩
                    case rest =>
                      clear HC50
                      try clear c1
                      try clear p1
                      try clear q1
                      try clear hx1
                      try clear hcv1
                      try clear c2
                      try clear p2
                      try clear q2
                      try clear hx2
                      try clear c3
                      try clear hcv3
                      try clear c4
                      try clear c5
                      try clear q5
                      try clear c6
                      try clear p6
                      try clear q6
                      try clear c8
                      try clear c8b0
                      try clear c9
                      try clear c9b0
                      try clear c10
                      try clear c10b0
                      try clear c10b1
                      try clear c10b2
                      try clear c11
                      try clear c11b0
                      try clear p11
                      try clear q11
                      try clear hx11
                      try clear c12
                      try clear p12
                      try clear q12
                      try clear hx12
                      try clear p13
                      try clear q13
                      try clear hx13
                      try clear hcv16
                      try clear c19
                      try clear c19b0
                      try clear c20
                      try clear c20b0
                      try clear c21
                      try clear c21b0
                      try clear c22
                      try clear c22b0
                      try clear c23
                      try clear c23b0
                      try clear c24
                      try clear c24b0
                      try clear p25
                      try clear q25
                      try clear hx25
                      try clear c26
                      try clear c26b0
                      try clear c26b1
                      try clear c26b2
                      try clear c27
                      try clear c28
                      try clear c28b0
                      try clear c29
                      try clear hcv33
                      try clear c37
                      try clear c37b0
                      try clear c37b1
                      try clear c40
                      try clear c40b0
                      try clear c40b1
                      try clear c41
                      try clear c41b0
                      try clear c41b1
                      try clear c43
                      try clear c43b0
                      try clear c44
                      try clear c44b0
                      try clear c47
                      try clear c47b0
                      try clear c48
                      try clear c48b0
                      try clear c48b1
                      try clear q54
                      try clear c56
                      try clear q56
                      try clear q61
                      try clear c63
                      try clear c63b0
                      try clear c63b1
                      try clear c64
                      try clear c64b0
                      try clear p64
                      try clear c65
                      try clear c65b0
                      try clear c67
                      try clear q67
                      try clear hx118_0
                      try clear hx122_0
                      try clear hx123_0
                      try clear hx127_0
                      try clear hx131_0
                      try clear hx131_1
                      try clear hx131_2
                      try clear hx131_3
                      try clear hx131_4
                      try clear hx131_5
                      try clear p1
                      try clear p11
                      try clear p118
                      try clear p12
                      try clear p122
                      try clear p123
                      try clear p127
                      try clear p13
                      try clear p131
                      try clear p2
                      try clear p25
                      try clear p6
                      try clear q056
                      try clear q067
                      try clear q1
                      try clear q11
                      try clear q118
                      try clear q12
                      try clear q122
                      try clear q123
                      try clear q127
                      try clear q13
                      try clear q131
                      try clear q2
                      try clear q25
                      try clear q54
                      try clear q56
                      try clear q61
                      try clear q67
                      obtain ⟨kq, x23_49, x24_49, rfl, HA, HJ49, HO_15, HO_19, HO_21, HO_23, HB⟩ := hcut
                      cases kq with
                      | zero => exact absurd HA.out (by simp [graverlaw23_ArlistSplits.j5])
                      | succ kj49 =>
                        have H := HA.out
                        clear HA
                        simp only [graverlaw23_ArlistSplits.j5] at H
                        have HC70 := Aside0.mk H
                        clear H
                        go_upto_region 27 with (fail)
                        go_cut [191] (fun v191 wc => ∃ (kq : Nat) (x191_69 : Bool), v191 = .bool x191_69 ∧ Aside0 (graverlaw23_ArlistSplits.j6 kq t135 t151 t155 t156 x23_49 x191_69 = some r) ∧ Aside0 (kq ≤ kj49) ∧ Aside0 (Kd.R k28 28 wc w.heap.size (fun k_ => some k_ ≠ (v153 : Value).ownBlock ∧ some k_ ≠ (v157 : Value).ownBlock ∧ some k_ ≠ (u23 : Value).ownBlock) v137 t135) ∧ Aside0 (Kd.R k28 28 wc w.heap.size (fun k_ => some k_ ≠ (v137 : Value).ownBlock ∧ some k_ ≠ (v157 : Value).ownBlock ∧ some k_ ≠ (u23 : Value).ownBlock) v153 t151) ∧ Aside0 (Kd.R k28 28 wc w.heap.size (fun k_ => some k_ ≠ (v137 : Value).ownBlock ∧ some k_ ≠ (v153 : Value).ownBlock ∧ some k_ ≠ (u23 : Value).ownBlock) v157 t155) ∧ Aside0 (Kd.R k28 28 wc w.heap.size (fun k_ => some k_ ≠ (v137 : Value).ownBlock ∧ some k_ ≠ (v153 : Value).ownBlock ∧ some k_ ≠ (v157 : Value).ownBlock) u23 x23_49) ∧ Aside0 (Below w.heap.size w wc))
                        case first =>
                          as_aux_lemma =>
                            have H := HC70.out
                            clear HC70
                            by_cases c71 : t136 = 0
                            · rw [if_pos c71] at H
                              have c71b0 : (t136 == 0) = true := beq_iff_eq.mpr c71
                              have c71b1 : (t136 != 0) = false := bne_eq_false_iff_eq.mpr c71
                              clear c71
                              (first | rw [c71b0] | (simp only [i64_w, i32_w]; rw [c71b0]) | skip)
                              by_cases c72 : t152 = 0
                              · rw [if_pos c72] at H
                                have c72b0 : (t152 == 0) = true := beq_iff_eq.mpr c72
                                have c72b1 : (t152 != 0) = false := bne_eq_false_iff_eq.mpr c72
                                clear c72
                                by_cases c73 : t156 = x24_49
                                · rw [if_pos c73] at H
                                  have c73b0 : (t156 == x24_49) = true := beq_iff_eq.mpr c73
                                  have c73b1 : (t156 != x24_49) = false := bne_eq_false_iff_eq.mpr c73
                                  clear c73
                                  by_cases c74 : (t135.length : Int) = (t151.length : Int)
                                  · rw [if_pos c74] at H
                                    have c74b0 : ((t135.length : Int) == (t151.length : Int)) = true := beq_iff_eq.mpr c74
                                    have c74b1 : ((t135.length : Int) != (t151.length : Int)) = false := bne_eq_false_iff_eq.mpr c74
                                    have c74b2 : (t135.length == t151.length) = true := by first | simpa using c74 | (simp at c74 ⊢; omega)
                                    clear c74
                                    by_cases c75 : t156 = 0
                                    · rw [if_pos c75] at H
                                      have c75b0 : (t156 == 0) = true := beq_iff_eq.mpr c75
                                      have c75b1 : (t156 != 0) = false := bne_eq_false_iff_eq.mpr c75
                                      clear c75
                                      have H' := Aside0.mk H
                                      clear H
                                      obtain ⟨Ao76, co76, eo76⟩ := Kd.R_slice HO_15.out
                                      subst eo76
                                      obtain ⟨Ao77, co77, eo77⟩ := Kd.R_slice HO_19.out
                                      subst eo77
                                      obtain ⟨Ao78, co78, eo78⟩ := Kd.R_slice HO_21.out
                                      subst eo78
                                      obtain ⟨Ao79, co79, eo79⟩ := Kd.R_slice HO_23.out
                                      subst eo79
                                      go_wp2
                                      first | go_meet | (simp only [← hji39]; go_meet)
                                      case rel => exact ⟨_, (((t155.length : Int) != (x23_49.length : Int))), (by first | rfl | (simp; done) | (simp [*]; done)), H', ⟨by have := HJ5.out; have := HJ17.out; have := HJ49.out; first | omega | exact Nat.le_refl _⟩, ⟨by (with_reducible repeat (first | apply Kd.R_alloc | apply Kd.R_drewN | apply Kd.R_drew)); exact HO_15.out⟩, ⟨by (with_reducible repeat (first | apply Kd.R_alloc | apply Kd.R_drewN | apply Kd.R_drew)); exact HO_19.out⟩, ⟨by (with_reducible repeat (first | apply Kd.R_alloc | apply Kd.R_drewN | apply Kd.R_drew)); exact HO_21.out⟩, ⟨by (with_reducible repeat (first | apply Kd.R_alloc | apply Kd.R_drewN | apply Kd.R_drew)); exact HO_23.out⟩, ⟨by repeat (first | (with_reducible first | exact HB.out | apply below_alloc | apply pw_below_drewN | apply below_drew1) | exact HB.out)⟩⟩
                                    · rw [if_neg c75] at H
                                      have c75b0 : (t156 == 0) = false := beq_eq_false_iff_ne.mpr c75
                                      have c75b1 : (t156 != 0) = true := bne_iff_ne.mpr c75
                                      have H' := Aside0.mk H
                                      clear H
                                      obtain ⟨Ao80, co80, eo80⟩ := Kd.R_slice HO_15.out
                                      subst eo80
                                      obtain ⟨Ao81, co81, eo81⟩ := Kd.R_slice HO_19.out
                                      subst eo81
                                      go_wp2
                                      first | go_meet | (simp only [← hji39]; go_meet)
                                      case rel => exact ⟨_, (false), (by first | rfl | (simp; done) | (simp [*]; done)), H', ⟨by have := HJ5.out; have := HJ17.out; have := HJ49.out; first | omega | exact Nat.le_refl _⟩, ⟨by (with_reducible repeat (first | apply Kd.R_alloc | apply Kd.R_drewN | apply Kd.R_drew)); exact HO_15.out⟩, ⟨by (with_reducible repeat (first | apply Kd.R_alloc | apply Kd.R_drewN | apply Kd.R_drew)); exact HO_19.out⟩, ⟨by (with_reducible repeat (first | apply Kd.R_alloc | apply Kd.R_drewN | apply Kd.R_drew)); exact HO_21.out⟩, ⟨by (with_reducible repeat (first | apply Kd.R_alloc | apply Kd.R_drewN | apply Kd.R_drew)); exact HO_23.out⟩, ⟨by repeat (first | (with_reducible first | exact HB.out | apply below_alloc | apply pw_below_drewN | apply below_drew1) | exact HB.out)⟩⟩
                                  · rw [if_neg c74] at H
                                    have c74b0 : ((t135.length : Int) == (t151.length : Int)) = false := beq_eq_false_iff_ne.mpr c74
                                    have c74b1 : ((t135.length : Int) != (t151.length : Int)) = true := bne_iff_ne.mpr c74
                                    have c74b2 : (t135.length == t151.length) = false := by first | simpa using c74 | (simp at c74 ⊢; omega)
                                    have H' := Aside0.mk H
                                    clear H
                                    obtain ⟨Ao82, co82, eo82⟩ := Kd.R_slice HO_15.out
                                    subst eo82
                                    obtain ⟨Ao83, co83, eo83⟩ := Kd.R_slice HO_19.out
                                    subst eo83
                                    go_wp2
                                    first | go_meet | (simp only [← hji39]; go_meet)
                                    case rel => exact ⟨_, (true), (by first | rfl | (simp; done) | (simp [*]; done)), H', ⟨by have := HJ5.out; have := HJ17.out; have := HJ49.out; first | omega | exact Nat.le_refl _⟩, ⟨by (with_reducible repeat (first | apply Kd.R_alloc | apply Kd.R_drewN | apply Kd.R_drew)); exact HO_15.out⟩, ⟨by (with_reducible repeat (first | apply Kd.R_alloc | apply Kd.R_drewN | apply Kd.R_drew)); exact HO_19.out⟩, ⟨by (with_reducible repeat (first | apply Kd.R_alloc | apply Kd.R_drewN | apply Kd.R_drew)); exact HO_21.out⟩, ⟨by (with_reducible repeat (first | apply Kd.R_alloc | apply Kd.R_drewN | apply Kd.R_drew)); exact HO_23.out⟩, ⟨by repeat (first | (with_reducible first | exact HB.out | apply below_alloc | apply pw_below_drewN | apply below_drew1) | exact HB.out)⟩⟩
                                · rw [if_neg c73] at H
                                  have c73b0 : (t156 == x24_49) = false := beq_eq_false_iff_ne.mpr c73
                                  have c73b1 : (t156 != x24_49) = true := bne_iff_ne.mpr c73
                                  have H' := Aside0.mk H
                                  clear H
                                  go_wp2
                                  first | go_meet | (simp only [← hji39]; go_meet)
                                  case rel => exact ⟨_, (true), (by first | rfl | (simp; done) | (simp [*]; done)), H', ⟨by have := HJ5.out; have := HJ17.out; have := HJ49.out; first | omega | exact Nat.le_refl _⟩, ⟨by (with_reducible repeat (first | apply Kd.R_alloc | apply Kd.R_drewN | apply Kd.R_drew)); exact HO_15.out⟩, ⟨by (with_reducible repeat (first | apply Kd.R_alloc | apply Kd.R_drewN | apply Kd.R_drew)); exact HO_19.out⟩, ⟨by (with_reducible repeat (first | apply Kd.R_alloc | apply Kd.R_drewN | apply Kd.R_drew)); exact HO_21.out⟩, ⟨by (with_reducible repeat (first | apply Kd.R_alloc | apply Kd.R_drewN | apply Kd.R_drew)); exact HO_23.out⟩, ⟨by repeat (first | (with_reducible first | exact HB.out | apply below_alloc | apply pw_below_drewN | apply below_drew1) | exact HB.out)⟩⟩
                              · rw [if_neg c72] at H
                                have c72b0 : (t152 == 0) = false := beq_eq_false_iff_ne.mpr c72
                                have c72b1 : (t152 != 0) = true := bne_iff_ne.mpr c72
                                have H' := Aside0.mk H
                                clear H
                                go_wp2
                                first | go_meet | (simp only [← hji39]; go_meet)
                                case rel => exact ⟨_, (true), (by first | rfl | (simp; done) | (simp [*]; done)), H', ⟨by have := HJ5.out; have := HJ17.out; have := HJ49.out; first | omega | exact Nat.le_refl _⟩, ⟨by (with_reducible repeat (first | apply Kd.R_alloc | apply Kd.R_drewN | apply Kd.R_drew)); exact HO_15.out⟩, ⟨by (with_reducible repeat (first | apply Kd.R_alloc | apply Kd.R_drewN | apply Kd.R_drew)); exact HO_19.out⟩, ⟨by (with_reducible repeat (first | apply Kd.R_alloc | apply Kd.R_drewN | apply Kd.R_drew)); exact HO_21.out⟩, ⟨by (with_reducible repeat (first | apply Kd.R_alloc | apply Kd.R_drewN | apply Kd.R_drew)); exact HO_23.out⟩, ⟨by repeat (first | (with_reducible first | exact HB.out | apply below_alloc | apply pw_below_drewN | apply below_drew1) | exact HB.out)⟩⟩
                            · rw [if_neg c71] at H
                              have c71b0 : (t136 == 0) = false := beq_eq_false_iff_ne.mpr c71
                              have c71b1 : (t136 != 0) = true := bne_iff_ne.mpr c71
                              (first | rw [c71b0] | (simp only [i64_w, i32_w]; rw [c71b0]) | skip)
                              have H' := Aside0.mk H
                              clear H
                              go_wp2
                              first | go_meet | (simp only [← hji39]; go_meet)
                              case rel => exact ⟨_, (true), (by first | rfl | (simp; done) | (simp [*]; done)), H', ⟨by have := HJ5.out; have := HJ17.out; have := HJ49.out; first | omega | exact Nat.le_refl _⟩, ⟨by (with_reducible repeat (first | apply Kd.R_alloc | apply Kd.R_drewN | apply Kd.R_drew)); exact HO_15.out⟩, ⟨by (with_reducible repeat (first | apply Kd.R_alloc | apply Kd.R_drewN | apply Kd.R_drew)); exact HO_19.out⟩, ⟨by (with_reducible repeat (first | apply Kd.R_alloc | apply Kd.R_drewN | apply Kd.R_drew)); exact HO_21.out⟩, ⟨by (with_reducible repeat (first | apply Kd.R_alloc | apply Kd.R_drewN | apply Kd.R_drew)); exact HO_23.out⟩, ⟨by repeat (first | (with_reducible first | exact HB.out | apply below_alloc | apply pw_below_drewN | apply below_drew1) | exact HB.out)⟩⟩
                        case rest =>
                          clear HC70
                          try clear c1
                          try clear p1
                          try clear q1
                          try clear hx1
                          try clear hcv1
                          try clear c2
                          try clear p2
                          try clear q2
                          try clear hx2
                          try clear c3
                          try clear hcv3
                          try clear c4
                          try clear c5
                          try clear q5
                          try clear c6
                          try clear p6
                          try clear q6
                          try clear c7
                          try clear c8
                          try clear c8b0
                          try clear c9
                          try clear c9b0
                          try clear c10
                          try clear c10b0
                          try clear c10b1
                          try clear c10b2
                          try clear c11
                          try clear c11b0
                          try clear p11
                          try clear q11
                          try clear hx11
                          try clear c12
                          try clear p12
                          try clear q12
                          try clear hx12
                          try clear p13
                          try clear q13
                          try clear hx13
                          try clear hcv16
                          try clear c19
                          try clear c19b0
                          try clear c20
                          try clear c20b0
                          try clear c21
                          try clear c21b0
                          try clear c22
                          try clear c22b0
                          try clear c23
                          try clear c23b0
                          try clear c24
                          try clear c24b0
                          try clear p25
                          try clear q25
                          try clear hx25
                          try clear c26
                          try clear c26b0
                          try clear c26b1
                          try clear c26b2
                          try clear c27
                          try clear c28
                          try clear c28b0
                          try clear c29
                          try clear hcv33
                          try clear c37
                          try clear c37b0
                          try clear c37b1
                          try clear c40
                          try clear c40b0
                          try clear c40b1
                          try clear c41
                          try clear c41b0
                          try clear c41b1
                          try clear c43
                          try clear c43b0
                          try clear c44
                          try clear c44b0
                          try clear c47
                          try clear c47b0
                          try clear c48
                          try clear c48b0
                          try clear c48b1
                          try clear q54
                          try clear c56
                          try clear q56
                          try clear q61
                          try clear c63
                          try clear c63b0
                          try clear c63b1
                          try clear c64
                          try clear c64b0
                          try clear p64
                          try clear c65
                          try clear c65b0
                          try clear c67
                          try clear q67
                          try clear c71
                          try clear c71b0
                          try clear c71b1
                          try clear c72
                          try clear c72b0
                          try clear c72b1
                          try clear c73
                          try clear c73b0
                          try clear c73b1
                          try clear c74
                          try clear c74b0
                          try clear c74b1
                          try clear c74b2
                          try clear c75
                          try clear c75b0
                          try clear c75b1
                          try clear hx118_0
                          try clear hx122_0
                          try clear hx123_0
                          try clear hx127_0
                          try clear hx131_0
                          try clear hx131_1
                          try clear hx131_2
                          try clear hx131_3
                          try clear hx131_4
                          try clear hx131_5
                          try clear p1
                          try clear p11
                          try clear p118
                          try clear p12
                          try clear p122
                          try clear p123
                          try clear p127
                          try clear p13
                          try clear p131
                          try clear p2
                          try clear p25
                          try clear p6
                          try clear p64
                          try clear q056
                          try clear q067
                          try clear q1
                          try clear q11
                          try clear q118
                          try clear q12
                          try clear q122
                          try clear q123
                          try clear q127
                          try clear q13
                          try clear q131
                          try clear q2
                          try clear q25
                          try clear q5
                          try clear q54
                          try clear q56
                          try clear q6
                          try clear q61
                          try clear q67
                          obtain ⟨kq, x191_69, rfl, HA, HJ69, HO_15, HO_19, HO_21, HO_23, HB⟩ := hcut
                          cases kq with
                          | zero => exact absurd HA.out (by simp [graverlaw23_ArlistSplits.j6])
                          | succ kj69 =>
                            have H := HA.out
                            clear HA
                            simp only [graverlaw23_ArlistSplits.j6] at H
                            by_cases c84 : x191_69 = true
                            · subst c84
                              have H1 : (some false) = some r := by rw [if_pos rfl] at H; exact H
                              clear H
                              have H := H1
                              clear H1
                              obtain rfl := Option.some.inj H
                              go_wp2
                              go_ret
                              exact ⟨by first | rfl | (simp [errW_none, errW_some] <;> rfl) | (simp only [← hji39]; first | rfl | (simp [errW_none, errW_some] <;> rfl)) | (simp [*, errW_none, errW_some] <;> rfl), by repeat (first | (with_reducible first | exact HB.out | apply below_alloc | apply pw_below_drewN | apply below_drew1) | exact HB.out)⟩
                            · replace c84 := Bool.eq_false_iff.mpr c84
                              subst c84
                              have H1 : (graverlaw23_ArlistSplits.l3 kj69 t135 t151 t155 t156 x23_49 0) = some r := by rw [if_neg (show ¬ (false = true) by decide)] at H; exact H
                              clear H
                              have H := H1
                              clear H1
                              have H' := Aside0.mk H
                              clear H
                              go_wp2
                              go_loopg [25] kj69 (fun kq v25 w' => ∃ (x25_5 : Int), v25 = .int .i64 x25_5 ∧ Aside0 (graverlaw23_ArlistSplits.l3 kq t135 t151 t155 t156 x23_49 x25_5 = some r) ∧ Aside0 (kq ≤ kj69) ∧ Aside0 (Kd.R k28 28 w' w.heap.size (fun k_ => some k_ ≠ (v153 : Value).ownBlock ∧ some k_ ≠ (v157 : Value).ownBlock ∧ some k_ ≠ (u23 : Value).ownBlock) v137 t135) ∧ Aside0 (Kd.R k28 28 w' w.heap.size (fun k_ => some k_ ≠ (v137 : Value).ownBlock ∧ some k_ ≠ (v157 : Value).ownBlock ∧ some k_ ≠ (u23 : Value).ownBlock) v153 t151) ∧ Aside0 (Kd.R k28 28 w' w.heap.size (fun k_ => some k_ ≠ (v137 : Value).ownBlock ∧ some k_ ≠ (v153 : Value).ownBlock ∧ some k_ ≠ (u23 : Value).ownBlock) v157 t155) ∧ Aside0 (Kd.R k28 28 w' w.heap.size (fun k_ => some k_ ≠ (v137 : Value).ownBlock ∧ some k_ ≠ (v153 : Value).ownBlock ∧ some k_ ≠ (v157 : Value).ownBlock) u23 x23_49) ∧ Aside0 (Below w.heap.size w w'))
                              case atStart => exact ⟨(0), (by first | rfl | (simp; done) | (simp [*]; done)), H', ⟨Nat.le_refl _⟩, ⟨by (with_reducible repeat (first | apply Kd.R_alloc | apply Kd.R_drewN | apply Kd.R_drew)); exact HO_15.out⟩, ⟨by (with_reducible repeat (first | apply Kd.R_alloc | apply Kd.R_drewN | apply Kd.R_drew)); exact HO_19.out⟩, ⟨by (with_reducible repeat (first | apply Kd.R_alloc | apply Kd.R_drewN | apply Kd.R_drew)); exact HO_21.out⟩, ⟨by (with_reducible repeat (first | apply Kd.R_alloc | apply Kd.R_drewN | apply Kd.R_drew)); exact HO_23.out⟩, ⟨by repeat (first | (with_reducible first | exact HB.out | apply below_alloc | apply pw_below_drewN | apply below_drew1) | exact HB.out)⟩⟩
                              case round =>
                                as_aux_lemma =>
                                  clear H'
                                  try clear c1
                                  try clear p1
                                  try clear q1
                                  try clear hx1
                                  try clear hcv1
                                  try clear c2
                                  try clear p2
                                  try clear q2
                                  try clear hx2
                                  try clear c3
                                  try clear hcv3
                                  try clear c4
                                  try clear c5
                                  try clear q5
                                  try clear c6
                                  try clear p6
                                  try clear q6
                                  try clear c7
                                  try clear c8
                                  try clear c8b0
                                  try clear c9
                                  try clear c9b0
                                  try clear c10
                                  try clear c10b0
                                  try clear c10b1
                                  try clear c10b2
                                  try clear c11
                                  try clear c11b0
                                  try clear p11
                                  try clear q11
                                  try clear hx11
                                  try clear c12
                                  try clear p12
                                  try clear q12
                                  try clear hx12
                                  try clear p13
                                  try clear q13
                                  try clear hx13
                                  try clear hcv16
                                  try clear c19
                                  try clear c19b0
                                  try clear c20
                                  try clear c20b0
                                  try clear c21
                                  try clear c21b0
                                  try clear c22
                                  try clear c22b0
                                  try clear c23
                                  try clear c23b0
                                  try clear c24
                                  try clear c24b0
                                  try clear p25
                                  try clear q25
                                  try clear hx25
                                  try clear c26
                                  try clear c26b0
                                  try clear c26b1
                                  try clear c26b2
                                  try clear c27
                                  try clear c28
                                  try clear c28b0
                                  try clear c29
                                  try clear hcv33
                                  try clear c37
                                  try clear c37b0
                                  try clear c37b1
                                  try clear c40
                                  try clear c40b0
                                  try clear c40b1
                                  try clear c41
                                  try clear c41b0
                                  try clear c41b1
                                  try clear c43
                                  try clear c43b0
                                  try clear c44
                                  try clear c44b0
                                  try clear c47
                                  try clear c47b0
                                  try clear c48
                                  try clear c48b0
                                  try clear c48b1
                                  try clear q54
                                  try clear c56
                                  try clear q56
                                  try clear q61
                                  try clear c63
                                  try clear c63b0
                                  try clear c63b1
                                  try clear c64
                                  try clear c64b0
                                  try clear p64
                                  try clear c65
                                  try clear c65b0
                                  try clear c67
                                  try clear q67
                                  try clear c71
                                  try clear c71b0
                                  try clear c71b1
                                  try clear c72
                                  try clear c72b0
                                  try clear c72b1
                                  try clear c73
                                  try clear c73b0
                                  try clear c73b1
                                  try clear c74
                                  try clear c74b0
                                  try clear c74b1
                                  try clear c74b2
                                  try clear c75
                                  try clear c75b0
                                  try clear c75b1
                                  try clear c84
                                  try clear hx118_0
                                  try clear hx122_0
                                  try clear hx123_0
                                  try clear hx127_0
                                  try clear hx131_0
                                  try clear hx131_1
                                  try clear hx131_2
                                  try clear hx131_3
                                  try clear hx131_4
                                  try clear hx131_5
                                  try clear p1
                                  try clear p11
                                  try clear p118
                                  try clear p12
                                  try clear p122
                                  try clear p123
                                  try clear p127
                                  try clear p13
                                  try clear p131
                                  try clear p2
                                  try clear p25
                                  try clear p6
                                  try clear p64
                                  try clear q056
                                  try clear q067
                                  try clear q1
                                  try clear q11
                                  try clear q118
                                  try clear q12
                                  try clear q122
                                  try clear q123
                                  try clear q127
                                  try clear q13
                                  try clear q131
                                  try clear q2
                                  try clear q25
                                  try clear q5
                                  try clear q54
                                  try clear q56
                                  try clear q6
                                  try clear q61
                                  try clear q67
                                  obtain ⟨x25_5, rfl, HA, HK5, HO_15, HO_19, HO_21, HO_23, HB⟩ := hrel
                                  cases gk with
                                  | zero => exact absurd HA.out (by simp [graverlaw23_ArlistSplits.l3])
                                  | succ k5 =>
                                    have H := HA.out
                                    clear HA
                                    simp only [graverlaw23_ArlistSplits.l3] at H
                                    by_cases c85 : x25_5 < (t135.length : Int)
                                    · rw [if_pos c85] at H
                                      have c85b0 : decide (x25_5 < (t135.length : Int)) = true := decide_eq_true c85
                                      clear c85
                                      by_cases c86 : 0 ≤ x25_5
                                      · rw [if_pos c86] at H
                                        have c86b0 : decide (0 ≤ x25_5) = true := decide_eq_true c86
                                        clear c86
                                        by_cases c87 : x25_5 < (t151.length : Int)
                                        · rw [if_pos c87] at H
                                          have c87b0 : decide (x25_5 < (t151.length : Int)) = true := decide_eq_true c87
                                          clear c87
                                          by_cases c88 : (!((((rd_T28 t135 x25_5).f0).toList) == (((rd_T28 t151 x25_5).f0).toList)) || (!(((rd_T28 t135 x25_5).f1) == ((rd_T28 t151 x25_5).f1)) || (!(((rd_T28 t135 x25_5).f2) == ((rd_T28 t151 x25_5).f2)) || (!(((rd_T28 t135 x25_5).f3) == ((rd_T28 t151 x25_5).f3)) || (!(((rd_T28 t135 x25_5).f4) == ((rd_T28 t151 x25_5).f4)) || (!((((rd_T28 t135 x25_5).f5).toList) == (((rd_T28 t151 x25_5).f5).toList)))))))) = true
                                          · rw [if_pos c88] at H
                                            have c88b0 : (!((((rd_T28 t135 x25_5).f0).toList) == (((rd_T28 t151 x25_5).f0).toList)) || (!(((rd_T28 t135 x25_5).f1) == ((rd_T28 t151 x25_5).f1)) || (!(((rd_T28 t135 x25_5).f2) == ((rd_T28 t151 x25_5).f2)) || (!(((rd_T28 t135 x25_5).f3) == ((rd_T28 t151 x25_5).f3)) || (!(((rd_T28 t135 x25_5).f4) == ((rd_T28 t151 x25_5).f4)) || (!((((rd_T28 t135 x25_5).f5).toList) == (((rd_T28 t151 x25_5).f5).toList)))))))) = true := c88
                                            clear c88
                                            obtain rfl := Option.some.inj H
                                            obtain ⟨Ao89, co89, eo89⟩ := Kd.R_slice HO_15.out
                                            subst eo89
                                            try go_wp2
                                            have n0_ := Aside0.mk (Kd.R_drew HO_15.out)
                                            have n1_ := Aside0.mk (Kd.R_drew HO_19.out)
                                            have n2_ := Aside0.mk (Kd.R_drew HO_21.out)
                                            have n3_ := Aside0.mk (Kd.R_drew HO_23.out)
                                            have n4_ := Aside0.mk (below_drew1 HB.out)
                                            clear HO_15
                                            clear HO_19
                                            clear HO_21
                                            clear HO_23
                                            clear HB
                                            have HO_15 := n0_
                                            have HO_19 := n1_
                                            have HO_21 := n2_
                                            have HO_23 := n3_
                                            have HB := n4_
                                            clear n0_ n1_ n2_ n3_ n4_
                                            have p175 : 0 ≤ (x25_5 : Int) := of_decide_eq_true (by first | (with_reducible assumption) | assumption)
                                            have q175 : x25_5 < (t135.length : Int) := of_decide_eq_true (by first | (with_reducible assumption) | assumption)
                                            obtain ⟨ad175, e175, hx175_0, hx175_1, hx175_2, hx175_3, hx175_4, hx175_5⟩ := at_T28 (Kd.R_reads' HO_15.out).2.2 x25_5 p175 q175
                                            cases e175
                                            replace p175 := eq_true p175
                                            replace q175 := eq_true q175
                                            obtain ⟨Ao91, co91, eo91⟩ := Kd.R_slice HO_19.out
                                            (first | subst eo91 | (injection eo91 with f1_ f2_ f3_; have f4_ := f1_.symm; have f5_ := f3_.symm; clear f1_ f2_ f3_; subst f4_; subst f5_))
                                            have p176 : 0 ≤ (x25_5 : Int) := of_decide_eq_true (by first | (with_reducible assumption) | assumption)
                                            have q176 : x25_5 < (t151.length : Int) := of_decide_eq_true (by first | (with_reducible assumption) | assumption)
                                            obtain ⟨ad176, e176, hx176_0, hx176_1, hx176_2, hx176_3, hx176_4, hx176_5⟩ := at_T28 (Kd.R_reads' HO_19.out).2.2 x25_5 p176 q176
                                            cases e176
                                            replace p176 := eq_true p176
                                            replace q176 := eq_true q176
                                            refine start_ (n := 9) (S := fun w' => w'.cell? (ad175.add ((x25_5).toNat * 6)) = some (.string ((rd_T28 t135 x25_5).f0)) ∧ w'.cell? ⟨(ad175.add ((x25_5).toNat * 6)).block, (ad175.add ((x25_5).toNat * 6)).off + 1, none⟩ = some (.int .u64 ((rd_T28 t135 x25_5).f1)) ∧ w'.cell? ⟨(ad175.add ((x25_5).toNat * 6)).block, (ad175.add ((x25_5).toNat * 6)).off + 2, none⟩ = some (.int .u64 ((rd_T28 t135 x25_5).f2)) ∧ w'.cell? ⟨(ad175.add ((x25_5).toNat * 6)).block, (ad175.add ((x25_5).toNat * 6)).off + 3, none⟩ = some (.int .u64 ((rd_T28 t135 x25_5).f3)) ∧ w'.cell? ⟨(ad175.add ((x25_5).toNat * 6)).block, (ad175.add ((x25_5).toNat * 6)).off + 4, none⟩ = some (.int .u64 ((rd_T28 t135 x25_5).f4)) ∧ w'.cell? ⟨(ad175.add ((x25_5).toNat * 6)).block, (ad175.add ((x25_5).toNat * 6)).off + 5, none⟩ = some (.string ((rd_T28 t135 x25_5).f5)) ∧ w'.cell? (ad176.add ((x25_5).toNat * 6)) = some (.string ((rd_T28 t151 x25_5).f0)) ∧ w'.cell? ⟨(ad176.add ((x25_5).toNat * 6)).block, (ad176.add ((x25_5).toNat * 6)).off + 1, none⟩ = some (.int .u64 ((rd_T28 t151 x25_5).f1)) ∧ w'.cell? ⟨(ad176.add ((x25_5).toNat * 6)).block, (ad176.add ((x25_5).toNat * 6)).off + 2, none⟩ = some (.int .u64 ((rd_T28 t151 x25_5).f2)) ∧ w'.cell? ⟨(ad176.add ((x25_5).toNat * 6)).block, (ad176.add ((x25_5).toNat * 6)).off + 3, none⟩ = some (.int .u64 ((rd_T28 t151 x25_5).f3)) ∧ w'.cell? ⟨(ad176.add ((x25_5).toNat * 6)).block, (ad176.add ((x25_5).toNat * 6)).off + 4, none⟩ = some (.int .u64 ((rd_T28 t151 x25_5).f4)) ∧ w'.cell? ⟨(ad176.add ((x25_5).toNat * 6)).block, (ad176.add ((x25_5).toNat * 6)).off + 5, none⟩ = some (.string ((rd_T28 t151 x25_5).f5))) (ds := []) #[false, false, false, false, false, false, false, false, false] (by kernel_rfl) rfl rfl ⟨hx175_0, hx175_1, hx175_2, hx175_3, hx175_4, hx175_5, hx176_0, hx176_1, hx176_2, hx176_3, hx176_4, hx176_5⟩ (fun hHeld => ?_); refine with_tabW graverlaw23_ArlistSplits.tab32 graverlaw23_ArlistSplits.bits32 (fun HT_ HW_ => ?_)
                                            generalize wr.drew = w90 at HO_15 HO_19 HO_21 HO_23 HB hx175_0 hx175_1 hx175_2 hx175_3 hx175_4 hx175_5 hx176_0 hx176_1 hx176_2 hx176_3 hx176_4 hx176_5 hHeld ⊢
                                            refine pure_ (i := 0) (N := some 198) (v := ?_) (a' := ?_) #[true, false, false, false, false, false, false, false, false] rfl rfl (any_of HT_.out (by kernel_rfl)) (fun _ _ _ h => h) (Or.inl ⟨by rfl, ?_⟩) ?_ ?_
                                            rotate_left
                                            · intro w'
                                              go_simp
                                              first | with_reducible rfl | (rw [if_neg (by (try simp only [ByteArray.size_extract, ByteArray.size_append] at *); omega)]; first | done | with_reducible rfl)
                                            rotate_left
                                            · simp only [Act.put, List.setIfInBounds_toArray, List.set_cons_zero, List.set_cons_succ, i64_w, i32_w]
                                              rfl
                                            refine pure_ (i := 1) (N := some 199) (v := ?_) (a' := ?_) #[true, true, false, false, false, false, false, false, false] rfl rfl (any_of HT_.out (by kernel_rfl)) (fun _ _ _ h => h) (Or.inl ⟨by rfl, ?_⟩) ?_ ?_
                                            rotate_left
                                            · intro w'
                                              go_simp
                                              first | with_reducible rfl | (rw [if_neg (by (try simp only [ByteArray.size_extract, ByteArray.size_append] at *); omega)]; first | done | with_reducible rfl)
                                            rotate_left
                                            · simp only [Act.put, List.setIfInBounds_toArray, List.set_cons_zero, List.set_cons_succ, i64_w, i32_w]
                                              rfl
                                            refine pure_ (i := 2) (N := some 200) (v := ?_) (a' := ?_) #[true, true, true, false, false, false, false, false, false] rfl rfl (any_of HT_.out (by kernel_rfl)) (fun _ _ _ h => h) (Or.inl ⟨by rfl, ?_⟩) ?_ ?_
                                            rotate_left
                                            · intro w'
                                              go_simp
                                              first | with_reducible rfl | (rw [if_neg (by (try simp only [ByteArray.size_extract, ByteArray.size_append] at *); omega)]; first | done | with_reducible rfl)
                                            rotate_left
                                            · simp only [Act.put, List.setIfInBounds_toArray, List.set_cons_zero, List.set_cons_succ, i64_w, i32_w]
                                              rfl
                                            refine pure_ (i := 4) (N := some 202) (v := ?_) (a' := ?_) #[true, true, true, false, true, false, false, false, false] rfl rfl (any_of HT_.out (by kernel_rfl)) (fun _ _ _ h => h) (Or.inl ⟨by rfl, ?_⟩) ?_ ?_
                                            rotate_left
                                            · intro w'
                                              go_simp
                                              first | with_reducible rfl | (rw [if_neg (by (try simp only [ByteArray.size_extract, ByteArray.size_append] at *); omega)]; first | done | with_reducible rfl)
                                            rotate_left
                                            · simp only [Act.put, List.setIfInBounds_toArray, List.set_cons_zero, List.set_cons_succ, i64_w, i32_w]
                                              rfl
                                            refine pure_ (i := 5) (N := some 203) (v := ?_) (a' := ?_) #[true, true, true, false, true, true, false, false, false] rfl rfl (any_of HT_.out (by kernel_rfl)) (fun _ _ _ h => h) (Or.inl ⟨by rfl, ?_⟩) ?_ ?_
                                            rotate_left
                                            · intro w'
                                              go_simp
                                              first | with_reducible rfl | (rw [if_neg (by (try simp only [ByteArray.size_extract, ByteArray.size_append] at *); omega)]; first | done | with_reducible rfl)
                                            rotate_left
                                            · simp only [Act.put, List.setIfInBounds_toArray, List.set_cons_zero, List.set_cons_succ, i64_w, i32_w]
                                              rfl
                                            refine pure_ (i := 6) (N := some 204) (v := ?_) (a' := ?_) #[true, true, true, false, true, true, true, false, false] rfl rfl (any_of HT_.out (by kernel_rfl)) (fun _ _ _ h => h) (Or.inl ⟨by rfl, ?_⟩) ?_ ?_
                                            rotate_left
                                            · intro w'
                                              go_simp
                                              first | with_reducible rfl | (rw [if_neg (by (try simp only [ByteArray.size_extract, ByteArray.size_append] at *); omega)]; first | done | with_reducible rfl)
                                            rotate_left
                                            · simp only [Act.put, List.setIfInBounds_toArray, List.set_cons_zero, List.set_cons_succ, i64_w, i32_w]
                                              rfl
                                            refine take_ (i := 3) (N := some 201) (v := ?_) (a' := ?_) #[true, true, true, true, true, true, true, false, false] rfl rfl (take_ofW HT_.out HW_.out (by kernel_rfl)) (fun _ _ _ h => h) (Or.inl ⟨by rfl, ?_⟩) hHeld ?_ ?_
                                            rotate_left
                                            · rintro w' ⟨s0, s1, s2, s3, s4, s5, s6, s7, s8, s9, s10, s11⟩
                                              go_simp
                                              first | with_reducible rfl | (rw [if_neg (by (try simp only [ByteArray.size_extract, ByteArray.size_append] at *); omega)]; first | done | with_reducible rfl)
                                            rotate_left
                                            · simp only [Act.put, List.setIfInBounds_toArray, List.set_cons_zero, List.set_cons_succ, i64_w, i32_w]
                                              rfl
                                            refine take_ (i := 7) (N := some 205) (v := ?_) (a' := ?_) #[true, true, true, true, true, true, true, true, false] rfl rfl (take_ofW HT_.out HW_.out (by kernel_rfl)) (fun _ _ _ h => h) (Or.inl ⟨by rfl, ?_⟩) hHeld ?_ ?_
                                            rotate_left
                                            · rintro w' ⟨s0, s1, s2, s3, s4, s5, s6, s7, s8, s9, s10, s11⟩
                                              go_simp
                                              first | with_reducible rfl | (rw [if_neg (by (try simp only [ByteArray.size_extract, ByteArray.size_append] at *); omega)]; first | done | with_reducible rfl)
                                            rotate_left
                                            · simp only [Act.put, List.setIfInBounds_toArray, List.set_cons_zero, List.set_cons_succ, i64_w, i32_w]
                                              rfl
                                            refine pure_ (i := 8) (N := some 206) (v := ?_) (a' := ?_) #[true, true, true, true, true, true, true, true, true] rfl rfl (any_of HT_.out (by kernel_rfl)) (fun _ _ _ h => h) (Or.inl ⟨by rfl, ?_⟩) ?_ ?_
                                            rotate_left
                                            · intro w'
                                              go_simp
                                              first | with_reducible rfl | (rw [if_neg (by (try simp only [ByteArray.size_extract, ByteArray.size_append] at *); omega)]; first | done | with_reducible rfl)
                                            rotate_left
                                            · simp only [Act.put, List.setIfInBounds_toArray, List.set_cons_zero, List.set_cons_succ, i64_w, i32_w]
                                              rfl
                                            refine done_ (done_of HT_.out (by kernel_rfl)) ?_
                                            try go_wp2
                                            go_ret
                                            exact ⟨by first | rfl | (simp [errW_none, errW_some] <;> rfl) | (simp only [← hji39]; first | rfl | (simp [errW_none, errW_some] <;> rfl)) | (simp [*, errW_none, errW_some] <;> rfl), by repeat (first | (with_reducible first | exact HB.out | apply below_alloc | apply pw_below_drewN | apply below_drew1) | exact HB.out)⟩
                                          · rw [if_neg c88] at H
                                            have c88b0 : (!((((rd_T28 t135 x25_5).f0).toList) == (((rd_T28 t151 x25_5).f0).toList)) || (!(((rd_T28 t135 x25_5).f1) == ((rd_T28 t151 x25_5).f1)) || (!(((rd_T28 t135 x25_5).f2) == ((rd_T28 t151 x25_5).f2)) || (!(((rd_T28 t135 x25_5).f3) == ((rd_T28 t151 x25_5).f3)) || (!(((rd_T28 t135 x25_5).f4) == ((rd_T28 t151 x25_5).f4)) || (!((((rd_T28 t135 x25_5).f5).toList) == (((rd_T28 t151 x25_5).f5).toList)))))))) = false := by simpa using c88
                                            clear c88
                                            have H' := Aside0.mk H
                                            clear H
                                            obtain ⟨Ao92, co92, eo92⟩ := Kd.R_slice HO_15.out
                                            subst eo92
                                            try go_wp2
                                            have n0_ := Aside0.mk (Kd.R_drew HO_15.out)
                                            have n1_ := Aside0.mk (Kd.R_drew HO_19.out)
                                            have n2_ := Aside0.mk (Kd.R_drew HO_21.out)
                                            have n3_ := Aside0.mk (Kd.R_drew HO_23.out)
                                            have n4_ := Aside0.mk (below_drew1 HB.out)
                                            clear HO_15
                                            clear HO_19
                                            clear HO_21
                                            clear HO_23
                                            clear HB
                                            have HO_15 := n0_
                                            have HO_19 := n1_
                                            have HO_21 := n2_
                                            have HO_23 := n3_
                                            have HB := n4_
                                            clear n0_ n1_ n2_ n3_ n4_
                                            have p175 : 0 ≤ (x25_5 : Int) := of_decide_eq_true (by first | (with_reducible assumption) | assumption)
                                            have q175 : x25_5 < (t135.length : Int) := of_decide_eq_true (by first | (with_reducible assumption) | assumption)
                                            obtain ⟨ad175, e175, hx175_0, hx175_1, hx175_2, hx175_3, hx175_4, hx175_5⟩ := at_T28 (Kd.R_reads' HO_15.out).2.2 x25_5 p175 q175
                                            cases e175
                                            replace p175 := eq_true p175
                                            replace q175 := eq_true q175
                                            obtain ⟨Ao94, co94, eo94⟩ := Kd.R_slice HO_19.out
                                            (first | subst eo94 | (injection eo94 with f1_ f2_ f3_; have f4_ := f1_.symm; have f5_ := f3_.symm; clear f1_ f2_ f3_; subst f4_; subst f5_))
                                            have p176 : 0 ≤ (x25_5 : Int) := of_decide_eq_true (by first | (with_reducible assumption) | assumption)
                                            have q176 : x25_5 < (t151.length : Int) := of_decide_eq_true (by first | (with_reducible assumption) | assumption)
                                            obtain ⟨ad176, e176, hx176_0, hx176_1, hx176_2, hx176_3, hx176_4, hx176_5⟩ := at_T28 (Kd.R_reads' HO_19.out).2.2 x25_5 p176 q176
                                            cases e176
                                            replace p176 := eq_true p176
                                            replace q176 := eq_true q176
                                            refine start_ (n := 9) (S := fun w' => w'.cell? (ad175.add ((x25_5).toNat * 6)) = some (.string ((rd_T28 t135 x25_5).f0)) ∧ w'.cell? ⟨(ad175.add ((x25_5).toNat * 6)).block, (ad175.add ((x25_5).toNat * 6)).off + 1, none⟩ = some (.int .u64 ((rd_T28 t135 x25_5).f1)) ∧ w'.cell? ⟨(ad175.add ((x25_5).toNat * 6)).block, (ad175.add ((x25_5).toNat * 6)).off + 2, none⟩ = some (.int .u64 ((rd_T28 t135 x25_5).f2)) ∧ w'.cell? ⟨(ad175.add ((x25_5).toNat * 6)).block, (ad175.add ((x25_5).toNat * 6)).off + 3, none⟩ = some (.int .u64 ((rd_T28 t135 x25_5).f3)) ∧ w'.cell? ⟨(ad175.add ((x25_5).toNat * 6)).block, (ad175.add ((x25_5).toNat * 6)).off + 4, none⟩ = some (.int .u64 ((rd_T28 t135 x25_5).f4)) ∧ w'.cell? ⟨(ad175.add ((x25_5).toNat * 6)).block, (ad175.add ((x25_5).toNat * 6)).off + 5, none⟩ = some (.string ((rd_T28 t135 x25_5).f5)) ∧ w'.cell? (ad176.add ((x25_5).toNat * 6)) = some (.string ((rd_T28 t151 x25_5).f0)) ∧ w'.cell? ⟨(ad176.add ((x25_5).toNat * 6)).block, (ad176.add ((x25_5).toNat * 6)).off + 1, none⟩ = some (.int .u64 ((rd_T28 t151 x25_5).f1)) ∧ w'.cell? ⟨(ad176.add ((x25_5).toNat * 6)).block, (ad176.add ((x25_5).toNat * 6)).off + 2, none⟩ = some (.int .u64 ((rd_T28 t151 x25_5).f2)) ∧ w'.cell? ⟨(ad176.add ((x25_5).toNat * 6)).block, (ad176.add ((x25_5).toNat * 6)).off + 3, none⟩ = some (.int .u64 ((rd_T28 t151 x25_5).f3)) ∧ w'.cell? ⟨(ad176.add ((x25_5).toNat * 6)).block, (ad176.add ((x25_5).toNat * 6)).off + 4, none⟩ = some (.int .u64 ((rd_T28 t151 x25_5).f4)) ∧ w'.cell? ⟨(ad176.add ((x25_5).toNat * 6)).block, (ad176.add ((x25_5).toNat * 6)).off + 5, none⟩ = some (.string ((rd_T28 t151 x25_5).f5))) (ds := []) #[false, false, false, false, false, false, false, false, false] (by kernel_rfl) rfl rfl ⟨hx175_0, hx175_1, hx175_2, hx175_3, hx175_4, hx175_5, hx176_0, hx176_1, hx176_2, hx176_3, hx176_4, hx176_5⟩ (fun hHeld => ?_); refine with_tabW graverlaw23_ArlistSplits.tab32 graverlaw23_ArlistSplits.bits32 (fun HT_ HW_ => ?_)
                                            generalize wr.drew = w93 at HO_15 HO_19 HO_21 HO_23 HB hx175_0 hx175_1 hx175_2 hx175_3 hx175_4 hx175_5 hx176_0 hx176_1 hx176_2 hx176_3 hx176_4 hx176_5 hHeld ⊢
                                            refine pure_ (i := 0) (N := some 198) (v := ?_) (a' := ?_) #[true, false, false, false, false, false, false, false, false] rfl rfl (any_of HT_.out (by kernel_rfl)) (fun _ _ _ h => h) (Or.inl ⟨by rfl, ?_⟩) ?_ ?_
                                            rotate_left
                                            · intro w'
                                              go_simp
                                              first | with_reducible rfl | (rw [if_neg (by (try simp only [ByteArray.size_extract, ByteArray.size_append] at *); omega)]; first | done | with_reducible rfl)
                                            rotate_left
                                            · simp only [Act.put, List.setIfInBounds_toArray, List.set_cons_zero, List.set_cons_succ, i64_w, i32_w]
                                              rfl
                                            refine pure_ (i := 1) (N := some 199) (v := ?_) (a' := ?_) #[true, true, false, false, false, false, false, false, false] rfl rfl (any_of HT_.out (by kernel_rfl)) (fun _ _ _ h => h) (Or.inl ⟨by rfl, ?_⟩) ?_ ?_
                                            rotate_left
                                            · intro w'
                                              go_simp
                                              first | with_reducible rfl | (rw [if_neg (by (try simp only [ByteArray.size_extract, ByteArray.size_append] at *); omega)]; first | done | with_reducible rfl)
                                            rotate_left
                                            · simp only [Act.put, List.setIfInBounds_toArray, List.set_cons_zero, List.set_cons_succ, i64_w, i32_w]
                                              rfl
                                            refine pure_ (i := 2) (N := some 200) (v := ?_) (a' := ?_) #[true, true, true, false, false, false, false, false, false] rfl rfl (any_of HT_.out (by kernel_rfl)) (fun _ _ _ h => h) (Or.inl ⟨by rfl, ?_⟩) ?_ ?_
                                            rotate_left
                                            · intro w'
                                              go_simp
                                              first | with_reducible rfl | (rw [if_neg (by (try simp only [ByteArray.size_extract, ByteArray.size_append] at *); omega)]; first | done | with_reducible rfl)
                                            rotate_left
                                            · simp only [Act.put, List.setIfInBounds_toArray, List.set_cons_zero, List.set_cons_succ, i64_w, i32_w]
                                              rfl
                                            refine pure_ (i := 4) (N := some 202) (v := ?_) (a' := ?_) #[true, true, true, false, true, false, false, false, false] rfl rfl (any_of HT_.out (by kernel_rfl)) (fun _ _ _ h => h) (Or.inl ⟨by rfl, ?_⟩) ?_ ?_
                                            rotate_left
                                            · intro w'
                                              go_simp
                                              first | with_reducible rfl | (rw [if_neg (by (try simp only [ByteArray.size_extract, ByteArray.size_append] at *); omega)]; first | done | with_reducible rfl)
                                            rotate_left
                                            · simp only [Act.put, List.setIfInBounds_toArray, List.set_cons_zero, List.set_cons_succ, i64_w, i32_w]
                                              rfl
                                            refine pure_ (i := 5) (N := some 203) (v := ?_) (a' := ?_) #[true, true, true, false, true, true, false, false, false] rfl rfl (any_of HT_.out (by kernel_rfl)) (fun _ _ _ h => h) (Or.inl ⟨by rfl, ?_⟩) ?_ ?_
                                            rotate_left
                                            · intro w'
                                              go_simp
                                              first | with_reducible rfl | (rw [if_neg (by (try simp only [ByteArray.size_extract, ByteArray.size_append] at *); omega)]; first | done | with_reducible rfl)
                                            rotate_left
                                            · simp only [Act.put, List.setIfInBounds_toArray, List.set_cons_zero, List.set_cons_succ, i64_w, i32_w]
                                              rfl
                                            refine pure_ (i := 6) (N := some 204) (v := ?_) (a' := ?_) #[true, true, true, false, true, true, true, false, false] rfl rfl (any_of HT_.out (by kernel_rfl)) (fun _ _ _ h => h) (Or.inl ⟨by rfl, ?_⟩) ?_ ?_
                                            rotate_left
                                            · intro w'
                                              go_simp
                                              first | with_reducible rfl | (rw [if_neg (by (try simp only [ByteArray.size_extract, ByteArray.size_append] at *); omega)]; first | done | with_reducible rfl)
                                            rotate_left
                                            · simp only [Act.put, List.setIfInBounds_toArray, List.set_cons_zero, List.set_cons_succ, i64_w, i32_w]
                                              rfl
                                            refine take_ (i := 3) (N := some 201) (v := ?_) (a' := ?_) #[true, true, true, true, true, true, true, false, false] rfl rfl (take_ofW HT_.out HW_.out (by kernel_rfl)) (fun _ _ _ h => h) (Or.inl ⟨by rfl, ?_⟩) hHeld ?_ ?_
                                            rotate_left
                                            · rintro w' ⟨s0, s1, s2, s3, s4, s5, s6, s7, s8, s9, s10, s11⟩
                                              go_simp
                                              first | with_reducible rfl | (rw [if_neg (by (try simp only [ByteArray.size_extract, ByteArray.size_append] at *); omega)]; first | done | with_reducible rfl)
                                            rotate_left
                                            · simp only [Act.put, List.setIfInBounds_toArray, List.set_cons_zero, List.set_cons_succ, i64_w, i32_w]
                                              rfl
                                            refine take_ (i := 7) (N := some 205) (v := ?_) (a' := ?_) #[true, true, true, true, true, true, true, true, false] rfl rfl (take_ofW HT_.out HW_.out (by kernel_rfl)) (fun _ _ _ h => h) (Or.inl ⟨by rfl, ?_⟩) hHeld ?_ ?_
                                            rotate_left
                                            · rintro w' ⟨s0, s1, s2, s3, s4, s5, s6, s7, s8, s9, s10, s11⟩
                                              go_simp
                                              first | with_reducible rfl | (rw [if_neg (by (try simp only [ByteArray.size_extract, ByteArray.size_append] at *); omega)]; first | done | with_reducible rfl)
                                            rotate_left
                                            · simp only [Act.put, List.setIfInBounds_toArray, List.set_cons_zero, List.set_cons_succ, i64_w, i32_w]
                                              rfl
                                            refine pure_ (i := 8) (N := some 206) (v := ?_) (a' := ?_) #[true, true, true, true, true, true, true, true, true] rfl rfl (any_of HT_.out (by kernel_rfl)) (fun _ _ _ h => h) (Or.inl ⟨by rfl, ?_⟩) ?_ ?_
                                            rotate_left
                                            · intro w'
                                              go_simp
                                              first | with_reducible rfl | (rw [if_neg (by (try simp only [ByteArray.size_extract, ByteArray.size_append] at *); omega)]; first | done | with_reducible rfl)
                                            rotate_left
                                            · simp only [Act.put, List.setIfInBounds_toArray, List.set_cons_zero, List.set_cons_succ, i64_w, i32_w]
                                              rfl
                                            refine done_ (done_of HT_.out (by kernel_rfl)) ?_
                                            try go_wp2
                                            go_roundg k5
                                            case measure => have := HJ5.out; have := HJ17.out; have := HJ49.out; have := HJ69.out; have := HK5.out; omega
                                            case rel => exact ⟨(wrap64 (x25_5 + 1)), (by first | rfl | (simp; done) | (simp [*]; done)), H', ⟨by have := HJ5.out; have := HJ17.out; have := HJ49.out; have := HJ69.out; have := HK5.out; omega⟩, ⟨by (with_reducible repeat (first | apply Kd.R_alloc | apply Kd.R_drewN | apply Kd.R_drew)); exact HO_15.out⟩, ⟨by (with_reducible repeat (first | apply Kd.R_alloc | apply Kd.R_drewN | apply Kd.R_drew)); exact HO_19.out⟩, ⟨by (with_reducible repeat (first | apply Kd.R_alloc | apply Kd.R_drewN | apply Kd.R_drew)); exact HO_21.out⟩, ⟨by (with_reducible repeat (first | apply Kd.R_alloc | apply Kd.R_drewN | apply Kd.R_drew)); exact HO_23.out⟩, ⟨by repeat (first | (with_reducible first | exact HB.out | apply below_alloc | apply pw_below_drewN | apply below_drew1) | exact HB.out)⟩⟩
                                        · rw [if_neg c87] at H
                                          exact absurd H (by simp)
                                      · rw [if_neg c86] at H
                                        exact absurd H (by simp)
                                    · rw [if_neg c85] at H
                                      have c85b0 : decide (x25_5 < (t135.length : Int)) = false := decide_eq_false c85
                                      clear c85
                                      have H' := Aside0.mk H
                                      clear H
                                      obtain ⟨Ao95, co95, eo95⟩ := Kd.R_slice HO_15.out
                                      subst eo95
                                      go_wp2
                                      go_loopg [26] k5 (fun kq v26 w' => ∃ (x26_6 : Int), v26 = .int .i64 x26_6 ∧ Aside0 (graverlaw23_ArlistSplits.l4 kq t155 t156 x23_49 x26_6 = some r) ∧ Aside0 (kq ≤ k5) ∧ Aside0 (Kd.R k28 28 w' w.heap.size (fun k_ => some k_ ≠ (u23 : Value).ownBlock) v157 t155) ∧ Aside0 (Kd.R k28 28 w' w.heap.size (fun k_ => some k_ ≠ (v157 : Value).ownBlock) u23 x23_49) ∧ Aside0 (Below w.heap.size w w'))
                                      case atStart => exact ⟨(0), (by first | rfl | (simp; done) | (simp [*]; done)), H', ⟨Nat.le_refl _⟩, ⟨by (with_reducible repeat (first | apply Kd.R_alloc | apply Kd.R_drewN | apply Kd.R_drew)); exact Kd.R_mono HO_21.out (fun _ hk => hk.2.2)⟩, ⟨by (with_reducible repeat (first | apply Kd.R_alloc | apply Kd.R_drewN | apply Kd.R_drew)); exact Kd.R_mono HO_23.out (fun _ hk => hk.2.2)⟩, ⟨by repeat (first | (with_reducible first | exact HB.out | apply below_alloc | apply pw_below_drewN | apply below_drew1) | exact HB.out)⟩⟩
                                      case round =>
                                        as_aux_lemma =>
                                          clear H'
                                          try clear c1
                                          try clear p1
                                          try clear q1
                                          try clear hx1
                                          try clear hcv1
                                          try clear c2
                                          try clear p2
                                          try clear q2
                                          try clear hx2
                                          try clear c3
                                          try clear hcv3
                                          try clear c4
                                          try clear c5
                                          try clear q5
                                          try clear c6
                                          try clear p6
                                          try clear q6
                                          try clear c7
                                          try clear c8
                                          try clear c8b0
                                          try clear c9
                                          try clear c9b0
                                          try clear c10
                                          try clear c10b0
                                          try clear c10b1
                                          try clear c10b2
                                          try clear c11
                                          try clear c11b0
                                          try clear p11
                                          try clear q11
                                          try clear hx11
                                          try clear c12
                                          try clear p12
                                          try clear q12
                                          try clear hx12
                                          try clear p13
                                          try clear q13
                                          try clear hx13
                                          try clear hcv16
                                          try clear p17
                                          try clear q17
                                          try clear hx17
                                          try clear c19
                                          try clear c19b0
                                          try clear c20
                                          try clear c20b0
                                          try clear c21
                                          try clear c21b0
                                          try clear c22
                                          try clear c22b0
                                          try clear c23
                                          try clear c23b0
                                          try clear c24
                                          try clear c24b0
                                          try clear p25
                                          try clear q25
                                          try clear hx25
                                          try clear c26
                                          try clear c26b0
                                          try clear c26b1
                                          try clear c26b2
                                          try clear c27
                                          try clear c28
                                          try clear c28b0
                                          try clear c29
                                          try clear hcv33
                                          try clear c37
                                          try clear c37b0
                                          try clear c37b1
                                          try clear c40
                                          try clear c40b0
                                          try clear c40b1
                                          try clear c41
                                          try clear c41b0
                                          try clear c41b1
                                          try clear c43
                                          try clear c43b0
                                          try clear c44
                                          try clear c44b0
                                          try clear c47
                                          try clear c47b0
                                          try clear c48
                                          try clear c48b0
                                          try clear c48b1
                                          try clear q54
                                          try clear c56
                                          try clear q56
                                          try clear q61
                                          try clear c63
                                          try clear c63b0
                                          try clear c63b1
                                          try clear c64
                                          try clear c64b0
                                          try clear p64
                                          try clear c65
                                          try clear c65b0
                                          try clear c67
                                          try clear q67
                                          try clear c71
                                          try clear c71b0
                                          try clear c71b1
                                          try clear c72
                                          try clear c72b0
                                          try clear c72b1
                                          try clear c73
                                          try clear c73b0
                                          try clear c73b1
                                          try clear c74
                                          try clear c74b0
                                          try clear c74b1
                                          try clear c74b2
                                          try clear c75
                                          try clear c75b0
                                          try clear c75b1
                                          try clear c84
                                          try clear c85
                                          try clear c85b0
                                          try clear c86
                                          try clear c86b0
                                          try clear c87
                                          try clear c87b0
                                          try clear c88
                                          try clear c88b0
                                          try clear hx118_0
                                          try clear hx122_0
                                          try clear hx123_0
                                          try clear hx127_0
                                          try clear hx131_0
                                          try clear hx131_1
                                          try clear hx131_2
                                          try clear hx131_3
                                          try clear hx131_4
                                          try clear hx131_5
                                          try clear hx175_0
                                          try clear hx175_1
                                          try clear hx175_2
                                          try clear hx175_3
                                          try clear hx175_4
                                          try clear hx175_5
                                          try clear hx176_0
                                          try clear hx176_1
                                          try clear hx176_2
                                          try clear hx176_3
                                          try clear hx176_4
                                          try clear hx176_5
                                          try clear p1
                                          try clear p11
                                          try clear p118
                                          try clear p12
                                          try clear p122
                                          try clear p123
                                          try clear p127
                                          try clear p13
                                          try clear p131
                                          try clear p175
                                          try clear p176
                                          try clear p2
                                          try clear p25
                                          try clear p6
                                          try clear p64
                                          try clear q056
                                          try clear q067
                                          try clear q1
                                          try clear q11
                                          try clear q118
                                          try clear q12
                                          try clear q122
                                          try clear q123
                                          try clear q127
                                          try clear q13
                                          try clear q131
                                          try clear q175
                                          try clear q176
                                          try clear q2
                                          try clear q25
                                          try clear q5
                                          try clear q54
                                          try clear q56
                                          try clear q6
                                          try clear q61
                                          try clear q67
                                          obtain ⟨x26_6, rfl, HA, HK6, HO_21, HO_23, HB⟩ := hrel
                                          cases gk with
                                          | zero => exact absurd HA.out (by simp [graverlaw23_ArlistSplits.l4])
                                          | succ k6 =>
                                            have H := HA.out
                                            clear HA
                                            simp only [graverlaw23_ArlistSplits.l4] at H
                                            by_cases c96 : x26_6 < (t155.length : Int)
                                            · rw [if_pos c96] at H
                                              have c96b0 : decide (x26_6 < (t155.length : Int)) = true := decide_eq_true c96
                                              clear c96
                                              by_cases c97 : t156 = 0
                                              · rw [if_pos c97] at H
                                                have c97b0 : (t156 == 0) = true := beq_iff_eq.mpr c97
                                                have c97b1 : (t156 != 0) = false := bne_eq_false_iff_eq.mpr c97
                                                clear c97
                                                by_cases c98 : 0 ≤ x26_6
                                                · rw [if_pos c98] at H
                                                  have c98b0 : decide (0 ≤ x26_6) = true := decide_eq_true c98
                                                  clear c98
                                                  by_cases c99 : x26_6 < (x23_49.length : Int)
                                                  · rw [if_pos c99] at H
                                                    have c99b0 : decide (x26_6 < (x23_49.length : Int)) = true := decide_eq_true c99
                                                    clear c99
                                                    by_cases c100 : (!((((rd_T28 t155 x26_6).f0).toList) == (((rd_T28 x23_49 x26_6).f0).toList)) || (!(((rd_T28 t155 x26_6).f1) == ((rd_T28 x23_49 x26_6).f1)) || (!(((rd_T28 t155 x26_6).f2) == ((rd_T28 x23_49 x26_6).f2)) || (!(((rd_T28 t155 x26_6).f3) == ((rd_T28 x23_49 x26_6).f3)) || (!(((rd_T28 t155 x26_6).f4) == ((rd_T28 x23_49 x26_6).f4)) || (!((((rd_T28 t155 x26_6).f5).toList) == (((rd_T28 x23_49 x26_6).f5).toList)))))))) = true
                                                    · rw [if_pos c100] at H
                                                      have c100b0 : (!((((rd_T28 t155 x26_6).f0).toList) == (((rd_T28 x23_49 x26_6).f0).toList)) || (!(((rd_T28 t155 x26_6).f1) == ((rd_T28 x23_49 x26_6).f1)) || (!(((rd_T28 t155 x26_6).f2) == ((rd_T28 x23_49 x26_6).f2)) || (!(((rd_T28 t155 x26_6).f3) == ((rd_T28 x23_49 x26_6).f3)) || (!(((rd_T28 t155 x26_6).f4) == ((rd_T28 x23_49 x26_6).f4)) || (!((((rd_T28 t155 x26_6).f5).toList) == (((rd_T28 x23_49 x26_6).f5).toList)))))))) = true := c100
                                                      clear c100
                                                      obtain rfl := Option.some.inj H
                                                      obtain ⟨Ao101, co101, eo101⟩ := Kd.R_slice HO_21.out
                                                      subst eo101
                                                      try go_wp2
                                                      have n0_ := Aside0.mk (Kd.R_drew HO_21.out)
                                                      have n1_ := Aside0.mk (Kd.R_drew HO_23.out)
                                                      have n2_ := Aside0.mk (below_drew1 HB.out)
                                                      clear HO_21
                                                      clear HO_23
                                                      clear HB
                                                      have HO_21 := n0_
                                                      have HO_23 := n1_
                                                      have HB := n2_
                                                      clear n0_ n1_ n2_
                                                      have p177 : 0 ≤ (x26_6 : Int) := of_decide_eq_true (by first | (with_reducible assumption) | assumption)
                                                      have q177 : x26_6 < (t155.length : Int) := of_decide_eq_true (by first | (with_reducible assumption) | assumption)
                                                      obtain ⟨ad177, e177, hx177_0, hx177_1, hx177_2, hx177_3, hx177_4, hx177_5⟩ := at_T28 (Kd.R_reads' HO_21.out).2.2 x26_6 p177 q177
                                                      cases e177
                                                      replace p177 := eq_true p177
                                                      replace q177 := eq_true q177
                                                      obtain ⟨Ao103, co103, eo103⟩ := Kd.R_slice HO_23.out
                                                      (first | subst eo103 | (injection eo103 with f1_ f2_ f3_; have f4_ := f1_.symm; have f5_ := f3_.symm; clear f1_ f2_ f3_; subst f4_; subst f5_))
                                                      have p178 : 0 ≤ (x26_6 : Int) := of_decide_eq_true (by first | (with_reducible assumption) | assumption)
                                                      have q178 : x26_6 < (x23_49.length : Int) := of_decide_eq_true (by first | (with_reducible assumption) | assumption)
                                                      obtain ⟨ad178, e178, hx178_0, hx178_1, hx178_2, hx178_3, hx178_4, hx178_5⟩ := at_T28 (Kd.R_reads' HO_23.out).2.2 x26_6 p178 q178
                                                      cases e178
                                                      replace p178 := eq_true p178
                                                      replace q178 := eq_true q178
                                                      refine start_ (n := 9) (S := fun w' => w'.cell? (ad177.add ((x26_6).toNat * 6)) = some (.string ((rd_T28 t155 x26_6).f0)) ∧ w'.cell? ⟨(ad177.add ((x26_6).toNat * 6)).block, (ad177.add ((x26_6).toNat * 6)).off + 1, none⟩ = some (.int .u64 ((rd_T28 t155 x26_6).f1)) ∧ w'.cell? ⟨(ad177.add ((x26_6).toNat * 6)).block, (ad177.add ((x26_6).toNat * 6)).off + 2, none⟩ = some (.int .u64 ((rd_T28 t155 x26_6).f2)) ∧ w'.cell? ⟨(ad177.add ((x26_6).toNat * 6)).block, (ad177.add ((x26_6).toNat * 6)).off + 3, none⟩ = some (.int .u64 ((rd_T28 t155 x26_6).f3)) ∧ w'.cell? ⟨(ad177.add ((x26_6).toNat * 6)).block, (ad177.add ((x26_6).toNat * 6)).off + 4, none⟩ = some (.int .u64 ((rd_T28 t155 x26_6).f4)) ∧ w'.cell? ⟨(ad177.add ((x26_6).toNat * 6)).block, (ad177.add ((x26_6).toNat * 6)).off + 5, none⟩ = some (.string ((rd_T28 t155 x26_6).f5)) ∧ w'.cell? (ad178.add ((x26_6).toNat * 6)) = some (.string ((rd_T28 x23_49 x26_6).f0)) ∧ w'.cell? ⟨(ad178.add ((x26_6).toNat * 6)).block, (ad178.add ((x26_6).toNat * 6)).off + 1, none⟩ = some (.int .u64 ((rd_T28 x23_49 x26_6).f1)) ∧ w'.cell? ⟨(ad178.add ((x26_6).toNat * 6)).block, (ad178.add ((x26_6).toNat * 6)).off + 2, none⟩ = some (.int .u64 ((rd_T28 x23_49 x26_6).f2)) ∧ w'.cell? ⟨(ad178.add ((x26_6).toNat * 6)).block, (ad178.add ((x26_6).toNat * 6)).off + 3, none⟩ = some (.int .u64 ((rd_T28 x23_49 x26_6).f3)) ∧ w'.cell? ⟨(ad178.add ((x26_6).toNat * 6)).block, (ad178.add ((x26_6).toNat * 6)).off + 4, none⟩ = some (.int .u64 ((rd_T28 x23_49 x26_6).f4)) ∧ w'.cell? ⟨(ad178.add ((x26_6).toNat * 6)).block, (ad178.add ((x26_6).toNat * 6)).off + 5, none⟩ = some (.string ((rd_T28 x23_49 x26_6).f5))) (ds := []) #[false, false, false, false, false, false, false, false, false] (by kernel_rfl) rfl rfl ⟨hx177_0, hx177_1, hx177_2, hx177_3, hx177_4, hx177_5, hx178_0, hx178_1, hx178_2, hx178_3, hx178_4, hx178_5⟩ (fun hHeld => ?_); refine with_tabW graverlaw23_ArlistSplits.tab37 graverlaw23_ArlistSplits.bits37 (fun HT_ HW_ => ?_)
                                                      generalize wr.drew = w102 at HO_21 HO_23 HB hx177_0 hx177_1 hx177_2 hx177_3 hx177_4 hx177_5 hx178_0 hx178_1 hx178_2 hx178_3 hx178_4 hx178_5 hHeld ⊢
                                                      refine pure_ (i := 0) (N := some 217) (v := ?_) (a' := ?_) #[true, false, false, false, false, false, false, false, false] rfl rfl (any_of HT_.out (by kernel_rfl)) (fun _ _ _ h => h) (Or.inl ⟨by rfl, ?_⟩) ?_ ?_
                                                      rotate_left
                                                      · intro w'
                                                        go_simp
                                                        first | with_reducible rfl | (rw [if_neg (by (try simp only [ByteArray.size_extract, ByteArray.size_append] at *); omega)]; first | done | with_reducible rfl)
                                                      rotate_left
                                                      · simp only [Act.put, List.setIfInBounds_toArray, List.set_cons_zero, List.set_cons_succ, i64_w, i32_w]
                                                        rfl
                                                      refine pure_ (i := 1) (N := some 218) (v := ?_) (a' := ?_) #[true, true, false, false, false, false, false, false, false] rfl rfl (any_of HT_.out (by kernel_rfl)) (fun _ _ _ h => h) (Or.inl ⟨by rfl, ?_⟩) ?_ ?_
                                                      rotate_left
                                                      · intro w'
                                                        go_simp
                                                        first | with_reducible rfl | (rw [if_neg (by (try simp only [ByteArray.size_extract, ByteArray.size_append] at *); omega)]; first | done | with_reducible rfl)
                                                      rotate_left
                                                      · simp only [Act.put, List.setIfInBounds_toArray, List.set_cons_zero, List.set_cons_succ, i64_w, i32_w]
                                                        rfl
                                                      refine pure_ (i := 2) (N := some 219) (v := ?_) (a' := ?_) #[true, true, true, false, false, false, false, false, false] rfl rfl (any_of HT_.out (by kernel_rfl)) (fun _ _ _ h => h) (Or.inl ⟨by rfl, ?_⟩) ?_ ?_
                                                      rotate_left
                                                      · intro w'
                                                        go_simp
                                                        first | with_reducible rfl | (rw [if_neg (by (try simp only [ByteArray.size_extract, ByteArray.size_append] at *); omega)]; first | done | with_reducible rfl)
                                                      rotate_left
                                                      · simp only [Act.put, List.setIfInBounds_toArray, List.set_cons_zero, List.set_cons_succ, i64_w, i32_w]
                                                        rfl
                                                      refine pure_ (i := 4) (N := some 221) (v := ?_) (a' := ?_) #[true, true, true, false, true, false, false, false, false] rfl rfl (any_of HT_.out (by kernel_rfl)) (fun _ _ _ h => h) (Or.inl ⟨by rfl, ?_⟩) ?_ ?_
                                                      rotate_left
                                                      · intro w'
                                                        go_simp
                                                        first | with_reducible rfl | (rw [if_neg (by (try simp only [ByteArray.size_extract, ByteArray.size_append] at *); omega)]; first | done | with_reducible rfl)
                                                      rotate_left
                                                      · simp only [Act.put, List.setIfInBounds_toArray, List.set_cons_zero, List.set_cons_succ, i64_w, i32_w]
                                                        rfl
                                                      refine pure_ (i := 5) (N := some 222) (v := ?_) (a' := ?_) #[true, true, true, false, true, true, false, false, false] rfl rfl (any_of HT_.out (by kernel_rfl)) (fun _ _ _ h => h) (Or.inl ⟨by rfl, ?_⟩) ?_ ?_
                                                      rotate_left
                                                      · intro w'
                                                        go_simp
                                                        first | with_reducible rfl | (rw [if_neg (by (try simp only [ByteArray.size_extract, ByteArray.size_append] at *); omega)]; first | done | with_reducible rfl)
                                                      rotate_left
                                                      · simp only [Act.put, List.setIfInBounds_toArray, List.set_cons_zero, List.set_cons_succ, i64_w, i32_w]
                                                        rfl
                                                      refine pure_ (i := 6) (N := some 223) (v := ?_) (a' := ?_) #[true, true, true, false, true, true, true, false, false] rfl rfl (any_of HT_.out (by kernel_rfl)) (fun _ _ _ h => h) (Or.inl ⟨by rfl, ?_⟩) ?_ ?_
                                                      rotate_left
                                                      · intro w'
                                                        go_simp
                                                        first | with_reducible rfl | (rw [if_neg (by (try simp only [ByteArray.size_extract, ByteArray.size_append] at *); omega)]; first | done | with_reducible rfl)
                                                      rotate_left
                                                      · simp only [Act.put, List.setIfInBounds_toArray, List.set_cons_zero, List.set_cons_succ, i64_w, i32_w]
                                                        rfl
                                                      refine take_ (i := 3) (N := some 220) (v := ?_) (a' := ?_) #[true, true, true, true, true, true, true, false, false] rfl rfl (take_ofW HT_.out HW_.out (by kernel_rfl)) (fun _ _ _ h => h) (Or.inl ⟨by rfl, ?_⟩) hHeld ?_ ?_
                                                      rotate_left
                                                      · rintro w' ⟨s0, s1, s2, s3, s4, s5, s6, s7, s8, s9, s10, s11⟩
                                                        go_simp
                                                        first | with_reducible rfl | (rw [if_neg (by (try simp only [ByteArray.size_extract, ByteArray.size_append] at *); omega)]; first | done | with_reducible rfl)
                                                      rotate_left
                                                      · simp only [Act.put, List.setIfInBounds_toArray, List.set_cons_zero, List.set_cons_succ, i64_w, i32_w]
                                                        rfl
                                                      refine take_ (i := 7) (N := some 224) (v := ?_) (a' := ?_) #[true, true, true, true, true, true, true, true, false] rfl rfl (take_ofW HT_.out HW_.out (by kernel_rfl)) (fun _ _ _ h => h) (Or.inl ⟨by rfl, ?_⟩) hHeld ?_ ?_
                                                      rotate_left
                                                      · rintro w' ⟨s0, s1, s2, s3, s4, s5, s6, s7, s8, s9, s10, s11⟩
                                                        go_simp
                                                        first | with_reducible rfl | (rw [if_neg (by (try simp only [ByteArray.size_extract, ByteArray.size_append] at *); omega)]; first | done | with_reducible rfl)
                                                      rotate_left
                                                      · simp only [Act.put, List.setIfInBounds_toArray, List.set_cons_zero, List.set_cons_succ, i64_w, i32_w]
                                                        rfl
                                                      refine pure_ (i := 8) (N := some 225) (v := ?_) (a' := ?_) #[true, true, true, true, true, true, true, true, true] rfl rfl (any_of HT_.out (by kernel_rfl)) (fun _ _ _ h => h) (Or.inl ⟨by rfl, ?_⟩) ?_ ?_
                                                      rotate_left
                                                      · intro w'
                                                        go_simp
                                                        first | with_reducible rfl | (rw [if_neg (by (try simp only [ByteArray.size_extract, ByteArray.size_append] at *); omega)]; first | done | with_reducible rfl)
                                                      rotate_left
                                                      · simp only [Act.put, List.setIfInBounds_toArray, List.set_cons_zero, List.set_cons_succ, i64_w, i32_w]
                                                        rfl
                                                      refine done_ (done_of HT_.out (by kernel_rfl)) ?_
                                                      try go_wp2
                                                      go_ret
                                                      exact ⟨by first | rfl | (simp [errW_none, errW_some] <;> rfl) | (simp only [← hji39]; first | rfl | (simp [errW_none, errW_some] <;> rfl)) | (simp [*, errW_none, errW_some] <;> rfl), by repeat (first | (with_reducible first | exact HB.out | apply below_alloc | apply pw_below_drewN | apply below_drew1) | exact HB.out)⟩
                                                    · rw [if_neg c100] at H
                                                      have c100b0 : (!((((rd_T28 t155 x26_6).f0).toList) == (((rd_T28 x23_49 x26_6).f0).toList)) || (!(((rd_T28 t155 x26_6).f1) == ((rd_T28 x23_49 x26_6).f1)) || (!(((rd_T28 t155 x26_6).f2) == ((rd_T28 x23_49 x26_6).f2)) || (!(((rd_T28 t155 x26_6).f3) == ((rd_T28 x23_49 x26_6).f3)) || (!(((rd_T28 t155 x26_6).f4) == ((rd_T28 x23_49 x26_6).f4)) || (!((((rd_T28 t155 x26_6).f5).toList) == (((rd_T28 x23_49 x26_6).f5).toList)))))))) = false := by simpa using c100
                                                      clear c100
                                                      have H' := Aside0.mk H
                                                      clear H
                                                      obtain ⟨Ao104, co104, eo104⟩ := Kd.R_slice HO_21.out
                                                      subst eo104
                                                      try go_wp2
                                                      have n0_ := Aside0.mk (Kd.R_drew HO_21.out)
                                                      have n1_ := Aside0.mk (Kd.R_drew HO_23.out)
                                                      have n2_ := Aside0.mk (below_drew1 HB.out)
                                                      clear HO_21
                                                      clear HO_23
                                                      clear HB
                                                      have HO_21 := n0_
                                                      have HO_23 := n1_
                                                      have HB := n2_
                                                      clear n0_ n1_ n2_
                                                      have p177 : 0 ≤ (x26_6 : Int) := of_decide_eq_true (by first | (with_reducible assumption) | assumption)
                                                      have q177 : x26_6 < (t155.length : Int) := of_decide_eq_true (by first | (with_reducible assumption) | assumption)
                                                      obtain ⟨ad177, e177, hx177_0, hx177_1, hx177_2, hx177_3, hx177_4, hx177_5⟩ := at_T28 (Kd.R_reads' HO_21.out).2.2 x26_6 p177 q177
                                                      cases e177
                                                      replace p177 := eq_true p177
                                                      replace q177 := eq_true q177
                                                      obtain ⟨Ao106, co106, eo106⟩ := Kd.R_slice HO_23.out
                                                      (first | subst eo106 | (injection eo106 with f1_ f2_ f3_; have f4_ := f1_.symm; have f5_ := f3_.symm; clear f1_ f2_ f3_; subst f4_; subst f5_))
                                                      have p178 : 0 ≤ (x26_6 : Int) := of_decide_eq_true (by first | (with_reducible assumption) | assumption)
                                                      have q178 : x26_6 < (x23_49.length : Int) := of_decide_eq_true (by first | (with_reducible assumption) | assumption)
                                                      obtain ⟨ad178, e178, hx178_0, hx178_1, hx178_2, hx178_3, hx178_4, hx178_5⟩ := at_T28 (Kd.R_reads' HO_23.out).2.2 x26_6 p178 q178
                                                      cases e178
                                                      replace p178 := eq_true p178
                                                      replace q178 := eq_true q178
                                                      refine start_ (n := 9) (S := fun w' => w'.cell? (ad177.add ((x26_6).toNat * 6)) = some (.string ((rd_T28 t155 x26_6).f0)) ∧ w'.cell? ⟨(ad177.add ((x26_6).toNat * 6)).block, (ad177.add ((x26_6).toNat * 6)).off + 1, none⟩ = some (.int .u64 ((rd_T28 t155 x26_6).f1)) ∧ w'.cell? ⟨(ad177.add ((x26_6).toNat * 6)).block, (ad177.add ((x26_6).toNat * 6)).off + 2, none⟩ = some (.int .u64 ((rd_T28 t155 x26_6).f2)) ∧ w'.cell? ⟨(ad177.add ((x26_6).toNat * 6)).block, (ad177.add ((x26_6).toNat * 6)).off + 3, none⟩ = some (.int .u64 ((rd_T28 t155 x26_6).f3)) ∧ w'.cell? ⟨(ad177.add ((x26_6).toNat * 6)).block, (ad177.add ((x26_6).toNat * 6)).off + 4, none⟩ = some (.int .u64 ((rd_T28 t155 x26_6).f4)) ∧ w'.cell? ⟨(ad177.add ((x26_6).toNat * 6)).block, (ad177.add ((x26_6).toNat * 6)).off + 5, none⟩ = some (.string ((rd_T28 t155 x26_6).f5)) ∧ w'.cell? (ad178.add ((x26_6).toNat * 6)) = some (.string ((rd_T28 x23_49 x26_6).f0)) ∧ w'.cell? ⟨(ad178.add ((x26_6).toNat * 6)).block, (ad178.add ((x26_6).toNat * 6)).off + 1, none⟩ = some (.int .u64 ((rd_T28 x23_49 x26_6).f1)) ∧ w'.cell? ⟨(ad178.add ((x26_6).toNat * 6)).block, (ad178.add ((x26_6).toNat * 6)).off + 2, none⟩ = some (.int .u64 ((rd_T28 x23_49 x26_6).f2)) ∧ w'.cell? ⟨(ad178.add ((x26_6).toNat * 6)).block, (ad178.add ((x26_6).toNat * 6)).off + 3, none⟩ = some (.int .u64 ((rd_T28 x23_49 x26_6).f3)) ∧ w'.cell? ⟨(ad178.add ((x26_6).toNat * 6)).block, (ad178.add ((x26_6).toNat * 6)).off + 4, none⟩ = some (.int .u64 ((rd_T28 x23_49 x26_6).f4)) ∧ w'.cell? ⟨(ad178.add ((x26_6).toNat * 6)).block, (ad178.add ((x26_6).toNat * 6)).off + 5, none⟩ = some (.string ((rd_T28 x23_49 x26_6).f5))) (ds := []) #[false, false, false, false, false, false, false, false, false] (by kernel_rfl) rfl rfl ⟨hx177_0, hx177_1, hx177_2, hx177_3, hx177_4, hx177_5, hx178_0, hx178_1, hx178_2, hx178_3, hx178_4, hx178_5⟩ (fun hHeld => ?_); refine with_tabW graverlaw23_ArlistSplits.tab37 graverlaw23_ArlistSplits.bits37 (fun HT_ HW_ => ?_)
                                                      generalize wr.drew = w105 at HO_21 HO_23 HB hx177_0 hx177_1 hx177_2 hx177_3 hx177_4 hx177_5 hx178_0 hx178_1 hx178_2 hx178_3 hx178_4 hx178_5 hHeld ⊢
                                                      refine pure_ (i := 0) (N := some 217) (v := ?_) (a' := ?_) #[true, false, false, false, false, false, false, false, false] rfl rfl (any_of HT_.out (by kernel_rfl)) (fun _ _ _ h => h) (Or.inl ⟨by rfl, ?_⟩) ?_ ?_
                                                      rotate_left
                                                      · intro w'
                                                        go_simp
                                                        first | with_reducible rfl | (rw [if_neg (by (try simp only [ByteArray.size_extract, ByteArray.size_append] at *); omega)]; first | done | with_reducible rfl)
                                                      rotate_left
                                                      · simp only [Act.put, List.setIfInBounds_toArray, List.set_cons_zero, List.set_cons_succ, i64_w, i32_w]
                                                        rfl
                                                      refine pure_ (i := 1) (N := some 218) (v := ?_) (a' := ?_) #[true, true, false, false, false, false, false, false, false] rfl rfl (any_of HT_.out (by kernel_rfl)) (fun _ _ _ h => h) (Or.inl ⟨by rfl, ?_⟩) ?_ ?_
                                                      rotate_left
                                                      · intro w'
                                                        go_simp
                                                        first | with_reducible rfl | (rw [if_neg (by (try simp only [ByteArray.size_extract, ByteArray.size_append] at *); omega)]; first | done | with_reducible rfl)
                                                      rotate_left
                                                      · simp only [Act.put, List.setIfInBounds_toArray, List.set_cons_zero, List.set_cons_succ, i64_w, i32_w]
                                                        rfl
                                                      refine pure_ (i := 2) (N := some 219) (v := ?_) (a' := ?_) #[true, true, true, false, false, false, false, false, false] rfl rfl (any_of HT_.out (by kernel_rfl)) (fun _ _ _ h => h) (Or.inl ⟨by rfl, ?_⟩) ?_ ?_
                                                      rotate_left
                                                      · intro w'
                                                        go_simp
                                                        first | with_reducible rfl | (rw [if_neg (by (try simp only [ByteArray.size_extract, ByteArray.size_append] at *); omega)]; first | done | with_reducible rfl)
                                                      rotate_left
                                                      · simp only [Act.put, List.setIfInBounds_toArray, List.set_cons_zero, List.set_cons_succ, i64_w, i32_w]
                                                        rfl
                                                      refine pure_ (i := 4) (N := some 221) (v := ?_) (a' := ?_) #[true, true, true, false, true, false, false, false, false] rfl rfl (any_of HT_.out (by kernel_rfl)) (fun _ _ _ h => h) (Or.inl ⟨by rfl, ?_⟩) ?_ ?_
                                                      rotate_left
                                                      · intro w'
                                                        go_simp
                                                        first | with_reducible rfl | (rw [if_neg (by (try simp only [ByteArray.size_extract, ByteArray.size_append] at *); omega)]; first | done | with_reducible rfl)
                                                      rotate_left
                                                      · simp only [Act.put, List.setIfInBounds_toArray, List.set_cons_zero, List.set_cons_succ, i64_w, i32_w]
                                                        rfl
                                                      refine pure_ (i := 5) (N := some 222) (v := ?_) (a' := ?_) #[true, true, true, false, true, true, false, false, false] rfl rfl (any_of HT_.out (by kernel_rfl)) (fun _ _ _ h => h) (Or.inl ⟨by rfl, ?_⟩) ?_ ?_
                                                      rotate_left
                                                      · intro w'
                                                        go_simp
                                                        first | with_reducible rfl | (rw [if_neg (by (try simp only [ByteArray.size_extract, ByteArray.size_append] at *); omega)]; first | done | with_reducible rfl)
                                                      rotate_left
                                                      · simp only [Act.put, List.setIfInBounds_toArray, List.set_cons_zero, List.set_cons_succ, i64_w, i32_w]
                                                        rfl
                                                      refine pure_ (i := 6) (N := some 223) (v := ?_) (a' := ?_) #[true, true, true, false, true, true, true, false, false] rfl rfl (any_of HT_.out (by kernel_rfl)) (fun _ _ _ h => h) (Or.inl ⟨by rfl, ?_⟩) ?_ ?_
                                                      rotate_left
                                                      · intro w'
                                                        go_simp
                                                        first | with_reducible rfl | (rw [if_neg (by (try simp only [ByteArray.size_extract, ByteArray.size_append] at *); omega)]; first | done | with_reducible rfl)
                                                      rotate_left
                                                      · simp only [Act.put, List.setIfInBounds_toArray, List.set_cons_zero, List.set_cons_succ, i64_w, i32_w]
                                                        rfl
                                                      refine take_ (i := 3) (N := some 220) (v := ?_) (a' := ?_) #[true, true, true, true, true, true, true, false, false] rfl rfl (take_ofW HT_.out HW_.out (by kernel_rfl)) (fun _ _ _ h => h) (Or.inl ⟨by rfl, ?_⟩) hHeld ?_ ?_
                                                      rotate_left
                                                      · rintro w' ⟨s0, s1, s2, s3, s4, s5, s6, s7, s8, s9, s10, s11⟩
                                                        go_simp
                                                        first | with_reducible rfl | (rw [if_neg (by (try simp only [ByteArray.size_extract, ByteArray.size_append] at *); omega)]; first | done | with_reducible rfl)
                                                      rotate_left
                                                      · simp only [Act.put, List.setIfInBounds_toArray, List.set_cons_zero, List.set_cons_succ, i64_w, i32_w]
                                                        rfl
                                                      refine take_ (i := 7) (N := some 224) (v := ?_) (a' := ?_) #[true, true, true, true, true, true, true, true, false] rfl rfl (take_ofW HT_.out HW_.out (by kernel_rfl)) (fun _ _ _ h => h) (Or.inl ⟨by rfl, ?_⟩) hHeld ?_ ?_
                                                      rotate_left
                                                      · rintro w' ⟨s0, s1, s2, s3, s4, s5, s6, s7, s8, s9, s10, s11⟩
                                                        go_simp
                                                        first | with_reducible rfl | (rw [if_neg (by (try simp only [ByteArray.size_extract, ByteArray.size_append] at *); omega)]; first | done | with_reducible rfl)
                                                      rotate_left
                                                      · simp only [Act.put, List.setIfInBounds_toArray, List.set_cons_zero, List.set_cons_succ, i64_w, i32_w]
                                                        rfl
                                                      refine pure_ (i := 8) (N := some 225) (v := ?_) (a' := ?_) #[true, true, true, true, true, true, true, true, true] rfl rfl (any_of HT_.out (by kernel_rfl)) (fun _ _ _ h => h) (Or.inl ⟨by rfl, ?_⟩) ?_ ?_
                                                      rotate_left
                                                      · intro w'
                                                        go_simp
                                                        first | with_reducible rfl | (rw [if_neg (by (try simp only [ByteArray.size_extract, ByteArray.size_append] at *); omega)]; first | done | with_reducible rfl)
                                                      rotate_left
                                                      · simp only [Act.put, List.setIfInBounds_toArray, List.set_cons_zero, List.set_cons_succ, i64_w, i32_w]
                                                        rfl
                                                      refine done_ (done_of HT_.out (by kernel_rfl)) ?_
                                                      try go_wp2
                                                      go_roundg k6
                                                      case measure => have := HJ5.out; have := HJ17.out; have := HJ49.out; have := HJ69.out; have := HK5.out; have := HK6.out; omega
                                                      case rel => exact ⟨(wrap64 (x26_6 + 1)), (by first | rfl | (simp; done) | (simp [*]; done)), H', ⟨by have := HJ5.out; have := HJ17.out; have := HJ49.out; have := HJ69.out; have := HK5.out; have := HK6.out; omega⟩, ⟨by (with_reducible repeat (first | apply Kd.R_alloc | apply Kd.R_drewN | apply Kd.R_drew)); exact HO_21.out⟩, ⟨by (with_reducible repeat (first | apply Kd.R_alloc | apply Kd.R_drewN | apply Kd.R_drew)); exact HO_23.out⟩, ⟨by repeat (first | (with_reducible first | exact HB.out | apply below_alloc | apply pw_below_drewN | apply below_drew1) | exact HB.out)⟩⟩
                                                  · rw [if_neg c99] at H
                                                    exact absurd H (by simp)
                                                · rw [if_neg c98] at H
                                                  exact absurd H (by simp)
                                              · rw [if_neg c97] at H
                                                have c97b0 : (t156 == 0) = false := beq_eq_false_iff_ne.mpr c97
                                                have c97b1 : (t156 != 0) = true := bne_iff_ne.mpr c97
                                                obtain rfl := Option.some.inj H
                                                obtain ⟨Ao107, co107, eo107⟩ := Kd.R_slice HO_21.out
                                                subst eo107
                                                go_wp2
                                                go_ret
                                                exact ⟨by first | rfl | (simp [errW_none, errW_some] <;> rfl) | (simp only [← hji39]; first | rfl | (simp [errW_none, errW_some] <;> rfl)) | (simp [*, errW_none, errW_some] <;> rfl), by repeat (first | (with_reducible first | exact HB.out | apply below_alloc | apply pw_below_drewN | apply below_drew1) | exact HB.out)⟩
                                            · rw [if_neg c96] at H
                                              have c96b0 : decide (x26_6 < (t155.length : Int)) = false := decide_eq_false c96
                                              clear c96
                                              obtain rfl := Option.some.inj H
                                              obtain ⟨Ao108, co108, eo108⟩ := Kd.R_slice HO_21.out
                                              subst eo108
                                              go_wp2
                                              go_ret
                                              exact ⟨by first | rfl | (simp [errW_none, errW_some] <;> rfl) | (simp only [← hji39]; first | rfl | (simp [errW_none, errW_some] <;> rfl)) | (simp [*, errW_none, errW_some] <;> rfl), by repeat (first | (with_reducible first | exact HB.out | apply below_alloc | apply pw_below_drewN | apply below_drew1) | exact HB.out)⟩
                  · rw [if_neg c48] at H
                    exact absurd H (by simp)
                · rw [if_neg c41] at H
                  exact absurd H (by simp)
              · rw [if_neg c40] at H
                exact absurd H (by simp)
  · replace c5 := Bool.eq_false_iff.mpr c5
    subst c5
    have H1 : (some false) = some r := by rw [if_neg (show ¬ (false = true) by decide)] at H; exact H
    clear H
    have H := H1
    clear H1
    obtain rfl := Option.some.inj H
    go_enter Try.func3, Try.ntmps3
    go_wp2_with (first | ((with_reducible refine gate_callee (f := 8) rfl ?_); refine goesL_ (some 27) rfl rfl Try.func8 (by kernel_rfl) rfl #[] rfl (by (try simp only [List.map_toArray, List.map_cons, List.map_nil]); first | done | rfl | (simp only [List.length_drop, List.length_take]; rfl)) ?_; (with_reducible refine (graverlaw23_speaks.calls  false _ A4.out).mono ?_); rintro e w109 ⟨rfl, hb⟩; refine ⟨_, rfl, ?_⟩; have n0_ := Aside0.mk (below_step (by repeat (first | (with_reducible first | exact HB.out | apply below_alloc | apply pw_below_drewN | apply below_drew1) | exact HB.out)) hb); clear HB; have HB := n0_; clear n0_; (try clear hb); (try clear hb2); (try clear hk); (try clear hi)))
    go_ret
    exact ⟨by first | rfl | (simp [errW_none, errW_some] <;> rfl) | (simp [*, errW_none, errW_some] <;> rfl), by repeat (first | (with_reducible first | exact HB.out | apply below_alloc | apply pw_below_drewN | apply below_drew1) | exact HB.out)⟩

end Go.Proofs.YtienjagoplcimaaX.Sp

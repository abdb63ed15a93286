-- PRINTED by print.py (a twelfth state) out of the translation. Not trusted: Lean checks it.
import Derived.Test.YtcfbdnlbgcoicaaDoorXNotesx0
import Derived.Test.YtcfbdnlbgcoicaaDoorXNotesx1
import Derived.Test.YtcfbdnlbgcoicaaDoorXNotesx2
import Derived.Test.YtcfbdnlbgcoicaaDoorXNotesx3
namespace Go.Proofs.YtcfbdnlbgcoicaaDoorX.Notes
open Go.RowKit Go.Proofs.YtcfbdnlbgcoicaaDoorW.PrintWords Go.Proofs.YtcfbdnlbgcoicaaDoorW.PrintLast Go.Proofs.YtcfbdnlbgcoicaaDoorW.PrintMore
attribute [local go_sem] max2_int min2_int max_two min_two max_three min_three max_four min_four   -- for this text's walks alone
set_option linter.unusedVariables false
set_option linter.unusedSimpArgs false

attribute [local go_sem high] eqA34
/-! ### graverlaw10_DynrecNotes: function 3 -/
mutual
def graverlaw10_DynrecNotes.j1 : Nat → ByteArray → List (S34) → List (S35) → Bool → Bool → Option (Bool)
  | 0, _, _, _, _, _ => none
  | k + 1, x2, x8, x9, x120000, x120001 => (dynrec_PutNotes.f x120000 x120001 x8).bind fun bt134 => ((graverref10_PutNotes.f k x120000 x9).bind fun bt136 => (if bt134.1.toList = bt136.1.toList then (graverlaw10_DynrecNotes.j2 k x2 x8 bt134.1 bt134.2 (bt134.2 != bt136.2) x120000 x120001) else (graverlaw10_DynrecNotes.j2 k x2 x8 bt134.1 bt134.2 true x120000 x120001)))
def graverlaw10_DynrecNotes.j2 : Nat → ByteArray → List (S34) → ByteArray → Bool → Bool → Bool → Bool → Option (Bool)
  | 0, _, _, _, _, _, _, _ => none
  | k + 1, x2, x8, x12, x13, x88, x120000, x120001 => if x88 = true then (some false) else (if x13 = true then ((dynrec_Notes.f x120000 x120001 x12).bind fun bt138 => (if bt138.2 = 0 then (graverlaw10_DynrecNotes.j3 k x2 x8 x12 bt138.1 ((bt138.1.length : Int) != (x8.length : Int)) x120000 x120001) else (graverlaw10_DynrecNotes.j3 k x2 x8 x12 bt138.1 true x120000 x120001))) else (graverlaw10_DynrecNotes.j5 k x2 x120000 x120001))
def graverlaw10_DynrecNotes.j5 : Nat → ByteArray → Bool → Bool → Option (Bool)
  | 0, _, _, _ => none
  | k + 1, x2, x120000, x120001 => if 0 ≤ (mn (x2.size : Int) 300) then (if (mn (x2.size : Int) 300) ≤ (x2.size : Int) then ((dynrec_Notes.f x120000 x120001 (x2.extract 0 ((mn (x2.size : Int) 300) : Int).toNat)).bind fun bt148 => (if bt148.2 = 0 then ((dynrec_PutNotes.f x120000 x120001 bt148.1).bind fun bt152 => (if bt152.2 = true then (some (bt152.1.toList == (x2.extract 0 ((mn (x2.size : Int) 300) : Int).toNat).toList)) else (some false))) else (if bt148.2 = 3 then (some ((bt148.1.length : Int) == 0)) else (if bt148.2 = 6 then (some ((bt148.1.length : Int) == 0)) else (some false))))) else (none)) else (none)
def graverlaw10_DynrecNotes.j3 : Nat → ByteArray → List (S34) → ByteArray → List (S34) → Bool → Bool → Bool → Option (Bool)
  | 0, _, _, _, _, _, _, _ => none
  | k + 1, x2, x8, x12, x16, x104, x120000, x120001 => if x104 = true then (some false) else (graverlaw10_DynrecNotes.l1 k x2 x8 x12 x16 0 x120000 x120001)
def graverlaw10_DynrecNotes.l1 : Nat → ByteArray → List (S34) → ByteArray → List (S34) → Int → Bool → Bool → Option (Bool)
  | 0, _, _, _, _, _, _, _ => none
  | k + 1, x2, x8, x12, x16, x18, x120000, x120001 => if x18 < (x8.length : Int) then (if 0 ≤ x18 then (if x18 < (x16.length : Int) then (if (!(((rd_T34 x16 x18).f0) == ((rd_T34 x8 x18).f0)) || (!((((rd_T34 x16 x18).f1).toList) == (((rd_T34 x8 x18).f1).toList)) || (!((((rd_T34 x16 x18).f2).toList) == (((rd_T34 x8 x18).f2).toList))))) = true then (some false) else (graverlaw10_DynrecNotes.l1 k x2 x8 x12 x16 (wrap64 (x18 + 1)) x120000 x120001)) else (none)) else (none)) else (if 0 ≤ (mx (wrap64 ((x12.size : Int) - 1)) 0) then (if (mx (wrap64 ((x12.size : Int) - 1)) 0) ≤ (x12.size : Int) then ((dynrec_Notes.f x120000 x120001 (x12.extract 0 ((mx (wrap64 ((x12.size : Int) - 1)) 0) : Int).toNat)).bind fun bt144 => (if (x12.size : Int) > 0 then (if bt144.2 = 3 then (graverlaw10_DynrecNotes.j5 k x2 x120000 x120001) else (some false)) else (graverlaw10_DynrecNotes.j5 k x2 x120000 x120001))) else (none)) else (none))
def graverlaw10_DynrecNotes.l0 : Nat → List (S33) → ByteArray → List (S34) → List (S35) → Int → Bool → Bool → Option (Bool)
  | 0, _, _, _, _, _, _, _ => none
  | k + 1, x1, x2, x8, x9, x10, x120000, x120001 => if x10 < (x1.length : Int) then (if x10 < 8 then (if 0 ≤ x10 then (if 0 ≤ (mn (((rd_T33 x1 x10).f1).size : Int) 40) then (if (mn (((rd_T33 x1 x10).f1).size : Int) 40) ≤ (((rd_T33 x1 x10).f1).size : Int) then (if 0 ≤ (mn (((rd_T33 x1 x10).f2).size : Int) 40) then (if (mn (((rd_T33 x1 x10).f2).size : Int) 40) ≤ (((rd_T33 x1 x10).f2).size : Int) then ((some (([(⟨(rd_T33 x1 x10).f0, ((rd_T33 x1 x10).f1).extract 0 ((mn (((rd_T33 x1 x10).f1).size : Int) 40) : Int).toNat, ((rd_T33 x1 x10).f2).extract 0 ((mn (((rd_T33 x1 x10).f2).size : Int) 40) : Int).toNat⟩ : S34)] : List (S34)) : List (S34))).bind fun y122 => (if x8.length + y122.length < 3518437208883 then ((some (([(⟨(rd_T33 x1 x10).f0, ((rd_T33 x1 x10).f1).extract 0 ((mn (((rd_T33 x1 x10).f1).size : Int) 40) : Int).toNat, ((rd_T33 x1 x10).f2).extract 0 ((mn (((rd_T33 x1 x10).f2).size : Int) 40) : Int).toNat⟩ : S35)] : List (S35)) : List (S35))).bind fun y128 => (if x9.length + y128.length < 3518437208883 then (graverlaw10_DynrecNotes.l0 k x1 x2 (x8 ++ y122) (x9 ++ y128) (wrap64 (x10 + 1)) x120000 x120001) else (none))) else (none))) else (none)) else (none)) else (none)) else (none)) else (none)) else (graverlaw10_DynrecNotes.j1 k x2 x8 x9 x120000 x120001)) else (graverlaw10_DynrecNotes.j1 k x2 x8 x9 x120000 x120001)
end
def graverlaw10_DynrecNotes.f (k : Nat) (a0 : Int) (l1 : List (S33)) (a2 : ByteArray) : Option (Bool) := (graverlaw10_speaks.f).bind fun t116 => (if t116 = true then ((graverlaw10_formOf.f a0).bind fun bt117 => (graverlaw10_DynrecNotes.l0 k l1 a2 ([] : List (S34)) ([] : List (S35)) 0 bt117.1 bt117.2)) else (some false))
theorem graverlaw10_DynrecNotes.mono_l : ∀ k, (∀ y0 y1 y2 y3 y4, LeO (graverlaw10_DynrecNotes.j1 k y0 y1 y2 y3 y4) (graverlaw10_DynrecNotes.j1 (k + 1) y0 y1 y2 y3 y4)) ∧ (∀ y0 y1 y2 y3 y4 y5 y6, LeO (graverlaw10_DynrecNotes.j2 k y0 y1 y2 y3 y4 y5 y6) (graverlaw10_DynrecNotes.j2 (k + 1) y0 y1 y2 y3 y4 y5 y6)) ∧ (∀ y0 y1 y2, LeO (graverlaw10_DynrecNotes.j5 k y0 y1 y2) (graverlaw10_DynrecNotes.j5 (k + 1) y0 y1 y2)) ∧ (∀ y0 y1 y2 y3 y4 y5 y6, LeO (graverlaw10_DynrecNotes.j3 k y0 y1 y2 y3 y4 y5 y6) (graverlaw10_DynrecNotes.j3 (k + 1) y0 y1 y2 y3 y4 y5 y6)) ∧ (∀ y0 y1 y2 y3 y4 y5 y6, LeO (graverlaw10_DynrecNotes.l1 k y0 y1 y2 y3 y4 y5 y6) (graverlaw10_DynrecNotes.l1 (k + 1) y0 y1 y2 y3 y4 y5 y6)) ∧ (∀ y0 y1 y2 y3 y4 y5 y6, LeO (graverlaw10_DynrecNotes.l0 k y0 y1 y2 y3 y4 y5 y6) (graverlaw10_DynrecNotes.l0 (k + 1) y0 y1 y2 y3 y4 y5 y6))
  | 0 => ⟨fun _ _ _ _ _ r h => by simp [graverlaw10_DynrecNotes.j1] at h, fun _ _ _ _ _ _ _ r h => by simp [graverlaw10_DynrecNotes.j2] at h, fun _ _ _ r h => by simp [graverlaw10_DynrecNotes.j5] at h, fun _ _ _ _ _ _ _ r h => by simp [graverlaw10_DynrecNotes.j3] at h, fun _ _ _ _ _ _ _ r h => by simp [graverlaw10_DynrecNotes.l1] at h, fun _ _ _ _ _ _ _ r h => by simp [graverlaw10_DynrecNotes.l0] at h⟩
  | k + 1 => by
    obtain ⟨ih0, ih1, ih2, ih3, ih4, ih5⟩ := graverlaw10_DynrecNotes.mono_l k
    refine ⟨?_, ?_, ?_, ?_, ?_, ?_⟩
    · intro y0 y1 y2 y3 y4
      unfold graverlaw10_DynrecNotes.j1
      repeat' first
      | (with_reducible exact ih0 _ _ _ _ _)
      | (with_reducible exact ih1 _ _ _ _ _ _ _)
      | (with_reducible exact ih2 _ _ _)
      | (with_reducible exact ih3 _ _ _ _ _ _ _)
      | (with_reducible exact ih4 _ _ _ _ _ _ _)
      | (with_reducible exact ih5 _ _ _ _ _ _ _)
      | (with_reducible exact graverref10_PutNotes.mono _ _ _)
      | (with_reducible exact LeO.refl _)
      | (with_reducible exact LeO.none _)
      | (with_reducible refine LeO.ite ?_ ?_)
      | (with_reducible refine LeO.bind ?_ (fun _ => ?_))
      | exact ih0 _ _ _ _ _
      | exact ih1 _ _ _ _ _ _ _
      | exact ih2 _ _ _
      | exact ih3 _ _ _ _ _ _ _
      | exact ih4 _ _ _ _ _ _ _
      | exact ih5 _ _ _ _ _ _ _
      | exact graverref10_PutNotes.mono _ _ _
      | exact LeO.none _
      | refine LeO.ite ?_ ?_
      | refine LeO.bind ?_ (fun _ => ?_)
    · intro y0 y1 y2 y3 y4 y5 y6
      unfold graverlaw10_DynrecNotes.j2
      repeat' first
      | (with_reducible exact ih0 _ _ _ _ _)
      | (with_reducible exact ih1 _ _ _ _ _ _ _)
      | (with_reducible exact ih2 _ _ _)
      | (with_reducible exact ih3 _ _ _ _ _ _ _)
      | (with_reducible exact ih4 _ _ _ _ _ _ _)
      | (with_reducible exact ih5 _ _ _ _ _ _ _)
      | (with_reducible exact graverref10_PutNotes.mono _ _ _)
      | (with_reducible exact LeO.refl _)
      | (with_reducible exact LeO.none _)
      | (with_reducible refine LeO.ite ?_ ?_)
      | (with_reducible refine LeO.bind ?_ (fun _ => ?_))
      | exact ih0 _ _ _ _ _
      | exact ih1 _ _ _ _ _ _ _
      | exact ih2 _ _ _
      | exact ih3 _ _ _ _ _ _ _
      | exact ih4 _ _ _ _ _ _ _
      | exact ih5 _ _ _ _ _ _ _
      | exact graverref10_PutNotes.mono _ _ _
      | exact LeO.none _
      | refine LeO.ite ?_ ?_
      | refine LeO.bind ?_ (fun _ => ?_)
    · intro y0 y1 y2
      unfold graverlaw10_DynrecNotes.j5
      repeat' first
      | (with_reducible exact ih0 _ _ _ _ _)
      | (with_reducible exact ih1 _ _ _ _ _ _ _)
      | (with_reducible exact ih2 _ _ _)
      | (with_reducible exact ih3 _ _ _ _ _ _ _)
      | (with_reducible exact ih4 _ _ _ _ _ _ _)
      | (with_reducible exact ih5 _ _ _ _ _ _ _)
      | (with_reducible exact graverref10_PutNotes.mono _ _ _)
      | (with_reducible exact LeO.refl _)
      | (with_reducible exact LeO.none _)
      | (with_reducible refine LeO.ite ?_ ?_)
      | (with_reducible refine LeO.bind ?_ (fun _ => ?_))
      | exact ih0 _ _ _ _ _
      | exact ih1 _ _ _ _ _ _ _
      | exact ih2 _ _ _
      | exact ih3 _ _ _ _ _ _ _
      | exact ih4 _ _ _ _ _ _ _
      | exact ih5 _ _ _ _ _ _ _
      | exact graverref10_PutNotes.mono _ _ _
      | exact LeO.none _
      | refine LeO.ite ?_ ?_
      | refine LeO.bind ?_ (fun _ => ?_)
    · intro y0 y1 y2 y3 y4 y5 y6
      unfold graverlaw10_DynrecNotes.j3
      repeat' first
      | (with_reducible exact ih0 _ _ _ _ _)
      | (with_reducible exact ih1 _ _ _ _ _ _ _)
      | (with_reducible exact ih2 _ _ _)
      | (with_reducible exact ih3 _ _ _ _ _ _ _)
      | (with_reducible exact ih4 _ _ _ _ _ _ _)
      | (with_reducible exact ih5 _ _ _ _ _ _ _)
      | (with_reducible exact graverref10_PutNotes.mono _ _ _)
      | (with_reducible exact LeO.refl _)
      | (with_reducible exact LeO.none _)
      | (with_reducible refine LeO.ite ?_ ?_)
      | (with_reducible refine LeO.bind ?_ (fun _ => ?_))
      | exact ih0 _ _ _ _ _
      | exact ih1 _ _ _ _ _ _ _
      | exact ih2 _ _ _
      | exact ih3 _ _ _ _ _ _ _
      | exact ih4 _ _ _ _ _ _ _
      | exact ih5 _ _ _ _ _ _ _
      | exact graverref10_PutNotes.mono _ _ _
      | exact LeO.none _
      | refine LeO.ite ?_ ?_
      | refine LeO.bind ?_ (fun _ => ?_)
    · intro y0 y1 y2 y3 y4 y5 y6
      unfold graverlaw10_DynrecNotes.l1
      repeat' first
      | (with_reducible exact ih0 _ _ _ _ _)
      | (with_reducible exact ih1 _ _ _ _ _ _ _)
      | (with_reducible exact ih2 _ _ _)
      | (with_reducible exact ih3 _ _ _ _ _ _ _)
      | (with_reducible exact ih4 _ _ _ _ _ _ _)
      | (with_reducible exact ih5 _ _ _ _ _ _ _)
      | (with_reducible exact graverref10_PutNotes.mono _ _ _)
      | (with_reducible exact LeO.refl _)
      | (with_reducible exact LeO.none _)
      | (with_reducible refine LeO.ite ?_ ?_)
      | (with_reducible refine LeO.bind ?_ (fun _ => ?_))
      | exact ih0 _ _ _ _ _
      | exact ih1 _ _ _ _ _ _ _
      | exact ih2 _ _ _
      | exact ih3 _ _ _ _ _ _ _
      | exact ih4 _ _ _ _ _ _ _
      | exact ih5 _ _ _ _ _ _ _
      | exact graverref10_PutNotes.mono _ _ _
      | exact LeO.none _
      | refine LeO.ite ?_ ?_
      | refine LeO.bind ?_ (fun _ => ?_)
    · intro y0 y1 y2 y3 y4 y5 y6
      unfold graverlaw10_DynrecNotes.l0
      repeat' first
      | (with_reducible exact ih0 _ _ _ _ _)
      | (with_reducible exact ih1 _ _ _ _ _ _ _)
      | (with_reducible exact ih2 _ _ _)
      | (with_reducible exact ih3 _ _ _ _ _ _ _)
      | (with_reducible exact ih4 _ _ _ _ _ _ _)
      | (with_reducible exact ih5 _ _ _ _ _ _ _)
      | (with_reducible exact graverref10_PutNotes.mono _ _ _)
      | (with_reducible exact LeO.refl _)
      | (with_reducible exact LeO.none _)
      | (with_reducible refine LeO.ite ?_ ?_)
      | (with_reducible refine LeO.bind ?_ (fun _ => ?_))
      | exact ih0 _ _ _ _ _
      | exact ih1 _ _ _ _ _ _ _
      | exact ih2 _ _ _
      | exact ih3 _ _ _ _ _ _ _
      | exact ih4 _ _ _ _ _ _ _
      | exact ih5 _ _ _ _ _ _ _
      | exact graverref10_PutNotes.mono _ _ _
      | exact LeO.none _
      | refine LeO.ite ?_ ?_
      | refine LeO.bind ?_ (fun _ => ?_)
theorem graverlaw10_DynrecNotes.mono : ∀ a0 a1 a2 k, LeO (graverlaw10_DynrecNotes.f k a0 a1 a2) (graverlaw10_DynrecNotes.f (k + 1) a0 a1 a2) := by
  intro a0 a1 a2 k
  obtain ⟨ih0, ih1, ih2, ih3, ih4, ih5⟩ := graverlaw10_DynrecNotes.mono_l k
  unfold graverlaw10_DynrecNotes.f
  repeat' first
      | (with_reducible exact ih0 _ _ _ _ _)
      | (with_reducible exact ih1 _ _ _ _ _ _ _)
      | (with_reducible exact ih2 _ _ _)
      | (with_reducible exact ih3 _ _ _ _ _ _ _)
      | (with_reducible exact ih4 _ _ _ _ _ _ _)
      | (with_reducible exact ih5 _ _ _ _ _ _ _)
      | (with_reducible exact graverref10_PutNotes.mono _ _ _)
      | (with_reducible exact LeO.refl _)
      | (with_reducible exact LeO.none _)
      | (with_reducible refine LeO.ite ?_ ?_)
      | (with_reducible refine LeO.bind ?_ (fun _ => ?_))
      | exact ih0 _ _ _ _ _
      | exact ih1 _ _ _ _ _ _ _
      | exact ih2 _ _ _
      | exact ih3 _ _ _ _ _ _ _
      | exact ih4 _ _ _ _ _ _ _
      | exact ih5 _ _ _ _ _ _ _
      | exact graverref10_PutNotes.mono _ _ _
      | exact LeO.none _
      | refine LeO.ite ?_ ?_
      | refine LeO.bind ?_ (fun _ => ?_)
def graverlaw10_DynrecNotes.T10 : Bool × List (List Nat × List Nat) := (true, [([], []), ([0], [0]), ([], []), ([2], [2]), ([3], [3]), ([4], [4]), ([1, 5], [1, 5]), ([], []), ([7], [7]), ([], []), ([9], [9]), ([10], [10]), ([11], [11]), ([8, 12], [8, 12]), ([0, 1, 2, 3, 4, 5, 6, 7, 8, 9, 10], []), ([14, 6, 0, 1, 2, 3, 4, 5, 6, 7, 8, 9, 10], [6, 14]), ([0, 1, 2, 3, 4, 5, 6, 7, 8, 9, 10, 11, 12, 13, 14, 15], []), ([16, 13, 15, 0, 1, 2, 3, 4, 5, 6, 7, 8, 9, 10, 11, 12, 13, 14, 15], [13, 16])])
def graverlaw10_DynrecNotes.B10 : List Nat := [0, 1, 0, 4, 12, 28, 63, 0, 128, 0, 512, 1536, 3584, 8064, 2047, 18431, 65535, 131071]
theorem graverlaw10_DynrecNotes.tab10 : rtab .any (opsOf Tryd.f3 10) = graverlaw10_DynrecNotes.T10 := by kernel_rfl
theorem graverlaw10_DynrecNotes.bits10 : waitsOk graverlaw10_DynrecNotes.T10.2 graverlaw10_DynrecNotes.B10 = true := by kernel_rfl
def graverlaw10_DynrecNotes.T11 : Bool × List (List Nat × List Nat) := (true, [([], []), ([], []), ([1], [1]), ([0, 2], [0, 2]), ([], []), ([], []), ([5], [5]), ([4, 6, 3], [4, 6]), ([3, 7, 0, 1, 2, 3], [0, 3]), ([7, 8, 0, 1, 2, 3, 4, 5, 6, 7, 8], [4, 7])])
def graverlaw10_DynrecNotes.B11 : List Nat := [0, 0, 2, 7, 0, 0, 32, 127, 255, 511]
theorem graverlaw10_DynrecNotes.tab11 : rtab .any (opsOf Tryd.f3 11) = graverlaw10_DynrecNotes.T11 := by kernel_rfl
theorem graverlaw10_DynrecNotes.bits11 : waitsOk graverlaw10_DynrecNotes.T11.2 graverlaw10_DynrecNotes.B11 = true := by kernel_rfl
def graverlaw10_DynrecNotes.T23 : Bool × List (List Nat × List Nat) := (true, [([], []), ([], []), ([0, 1], [0, 1]), ([2], [2]), ([], []), ([], []), ([4, 5], [4, 5]), ([6], [6]), ([3, 7], [3, 7])])
def graverlaw10_DynrecNotes.B23 : List Nat := [0, 0, 3, 7, 0, 0, 48, 112, 255]
theorem graverlaw10_DynrecNotes.tab23 : rtab .any (opsOf Tryd.f3 23) = graverlaw10_DynrecNotes.T23 := by kernel_rfl
theorem graverlaw10_DynrecNotes.bits23 : waitsOk graverlaw10_DynrecNotes.T23.2 graverlaw10_DynrecNotes.B23 = true := by kernel_rfl
def graverlaw10_DynrecNotes.T25 : Bool × List (List Nat × List Nat) := (true, [([], []), ([], []), ([], []), ([2], [2]), ([3], [3]), ([4], [4]), ([1, 5], [1, 5]), ([0, 6], [0, 6]), ([7], [7]), ([8], [8]), ([8], [8]), ([9, 7, 0, 1, 2, 3, 4, 5, 6, 7, 8, 9], [9]), ([10, 11, 0, 1, 2, 3, 4, 5, 6, 7, 8, 9, 10, 11], [10])])
def graverlaw10_DynrecNotes.B25 : List Nat := [0, 0, 0, 4, 12, 28, 62, 127, 255, 511, 511, 1023, 4095]
theorem graverlaw10_DynrecNotes.tab25 : rtab .any (opsOf Tryd.f3 25) = graverlaw10_DynrecNotes.T25 := by kernel_rfl
theorem graverlaw10_DynrecNotes.bits25 : waitsOk graverlaw10_DynrecNotes.T25.2 graverlaw10_DynrecNotes.B25 = true := by kernel_rfl
set_option maxHeartbeats 8000000 in
set_option maxRecDepth 100000 in
theorem graverlaw10_DynrecNotes.calls (k : Nat) (a0 : Int) (A1 : Option Addr) (c1 : Nat) (l1 : List (S33)) (a2 : ByteArray) (r : Bool) (w : World) (hr1 : Kd.C k33 w A1 l1.length l1) (hc1 : l1.length ≤ c1) (h : graverlaw10_DynrecNotes.f k a0 l1 a2 = some r) :
    Calls Tryd.prog 3 #[.int .i64 a0, .slice A1 l1.length c1, .string a2] w fun e w' => e = .returned (.bool r) ∧ Below w.heap.size w w' := by
  have hu27 := Tryd.underlying27
  have hu33 := Tryd.underlying33
  have hu34 := Tryd.underlying34
  have HR1 := Aside0.mk hr1
  have HC1 := Aside0.mk hc1
  clear hr1 hc1
  have HB := Aside0.mk (Below.refl w.heap.size w)
  have H : ((graverlaw10_speaks.f).bind fun t116 => (if t116 = true then ((graverlaw10_formOf.f a0).bind fun bt117 => (graverlaw10_DynrecNotes.l0 k l1 a2 ([] : List (S34)) ([] : List (S35)) 0 bt117.1 bt117.2)) else (some false))) = some r := h
  clear h
  replace H := Option.bind_eq_some_iff.mp H
  obtain ⟨t116, A40, H⟩ := H
  replace H : (if t116 = true then ((graverlaw10_formOf.f a0).bind fun bt117 => (graverlaw10_DynrecNotes.l0 k l1 a2 ([] : List (S34)) ([] : List (S35)) 0 bt117.1 bt117.2)) else (some false)) = some r := H
  have A4 := Aside0.mk A40
  clear A40
  by_cases c5 : t116 = true
  · subst c5
    have H1 : ((graverlaw10_formOf.f a0).bind fun bt117 => (graverlaw10_DynrecNotes.l0 k l1 a2 ([] : List (S34)) ([] : List (S35)) 0 bt117.1 bt117.2)) = some r := by rw [if_pos rfl] at H; exact H
    clear H
    have H := H1
    clear H1
    replace H := Option.bind_eq_some_iff.mp H
    obtain ⟨⟨t117, t118⟩, A60, H⟩ := H
    replace H : (graverlaw10_DynrecNotes.l0 k l1 a2 ([] : List (S34)) ([] : List (S35)) 0 t117 t118) = some r := H
    have A6 := Aside0.mk A60
    clear A60
    have HC7 := Aside0.mk H
    clear H
    go_enter Tryd.func3, Tryd.ntmps3
    go_upto_block 0 with (first | ((with_reducible refine gate_callee (f := 7) rfl ?_); refine goesL_ (some 25) rfl rfl Tryd.func7 (by kernel_rfl) rfl #[] rfl (by (try simp only [List.map_toArray, List.map_cons, List.map_nil]); first | done | rfl | (simp only [List.length_drop, List.length_take]; rfl)) ?_; (with_reducible refine (graverlaw10_speaks.calls  true _ A4.out).mono ?_); rintro e w8 ⟨rfl, hb⟩; refine ⟨_, rfl, ?_⟩; have n0_ := Aside0.mk (below_step (by repeat (first | (with_reducible first | exact HB.out | apply below_alloc | apply pw_below_drewN | apply below_drew1) | exact HB.out)) hb); clear HB; have HB := n0_; clear n0_; (try clear hb); (try clear hb2); (try clear hk); (try clear hi)) | ((with_reducible refine gate_callee (f := 8) rfl ?_); refine goesL_ (some 28) rfl rfl Tryd.func8 (by kernel_rfl) rfl #[.int .i64 a0] rfl (by (try simp only [List.map_toArray, List.map_cons, List.map_nil]); first | done | rfl | (simp only [List.length_drop, List.length_take]; rfl)) ?_; (with_reducible refine (graverlaw10_formOf.calls a0 t117 t118 _ A6.out).mono ?_); rintro e w9 ⟨rfl, hb⟩; refine ⟨_, rfl, ?_⟩; have n0_ := Aside0.mk (below_step (by repeat (first | (with_reducible first | exact HB.out | apply below_alloc | apply pw_below_drewN | apply below_drew1) | exact HB.out)) hb); clear HB; have HB := n0_; clear n0_; (try clear hb); (try clear hb2); (try clear hk); (try clear hi)) | ((with_reducible refine gate_dst (N := 7) rfl ?_); (try (refine gate_guard (by rfl) ?_; dsimp only)); refine box_event ?hg (N := 7) ?hd (cs := #[.bool false, .bool false]) (t := 27) ?hr ?_; (case hd => rfl); (case hg => rfl); (case hr => first | (go_simp; done) | (go_simp; rfl)); intro gb119 hg w10 hbox hb; have n0_ := Aside0.mk (below_step (by repeat (first | (with_reducible first | exact HB.out | apply below_alloc | apply pw_below_drewN | apply below_drew1) | exact HB.out)) hb); have n1_ := Aside0.mk (hbox); have n2_ := Aside0.mk ((by rw [hg]; exact (below_size (by repeat (first | (with_reducible first | exact HB.out | apply below_alloc | apply pw_below_drewN | apply below_drew1) | exact HB.out))) : w.heap.size ≤ gb119)); have n3_ := Aside0.mk ((by rw [hg]; exact (below_size (by repeat (first | (with_reducible first | exact HB.out | apply below_alloc | apply pw_below_drewN | apply below_drew1) | exact HB.out))) : w.heap.size ≤ gb119)); clear HB; have HB := n0_; have BK119 := n1_; have GW119 := n2_; have GE119 := n3_; clear n0_ n1_ n2_ n3_; clear hb hbox hg; have hcz11_0 : w10.cell? ⟨gb119, 0, none⟩ = some (.bool false) := (blk_cell BK119.out 0).trans rfl; have hcz11_1 : w10.cell? ⟨gb119, 1, none⟩ = some (.bool false) := (blk_cell BK119.out 1).trans rfl; have hfz11_0 := blk_frozen BK119.out 0; have hfz11_1 := blk_frozen BK119.out 1))
    (try simp only [Act.put, List.setIfInBounds_toArray, List.set_cons_zero, List.set_cons_succ])
    go_cut [8, 9] (fun v8 v9 wc => ∃ (kq : Nat) (x8_6 : List (S34)) (x9_6 : List (S35)), Aside0 (graverlaw10_DynrecNotes.j1 kq a2 x8_6 x9_6 t117 t118 = some r) ∧ Aside0 (kq ≤ k) ∧ Aside0 (Kd.R k34 34 wc w.heap.size (fun _ => True) v8 x8_6) ∧ Aside0 (Kd.R k35 35 wc w.heap.size (fun _ => True) v9 x9_6) ∧ Aside0 (wc.heap[gb119]? = some (.cells #[.bool t117, .bool t118] 27 (0, 0))) ∧ Aside0 (Below w.heap.size w wc))
    case first =>
      have H := HC7.out
      clear HC7
      have H' := Aside0.mk H
      clear H
      go_wp2
      go_loopg [8, 9, 10] k (fun kq v8 v9 v10 w' => ∃ (x8_1 : List (S34)) (x9_1 : List (S35)) (x10_1 : Int), v10 = .int .i64 x10_1 ∧ Aside0 (graverlaw10_DynrecNotes.l0 kq l1 a2 x8_1 x9_1 x10_1 t117 t118 = some r) ∧ Aside0 (kq ≤ k) ∧ Aside0 (Kd.R k34 34 w' w.heap.size (fun _ => True) v8 x8_1) ∧ Aside0 (Kd.R k35 35 w' w.heap.size (fun _ => True) v9 x9_1) ∧ Aside0 (w'.heap[gb119]? = some (.cells #[.bool t117, .bool t118] 27 (0, 0))) ∧ Aside0 (Below w.heap.size w w'))
      case atStart => exact ⟨(([] : List (S34))), (([] : List (S35))), (0), (by first | rfl | (simp; done) | (simp [*]; done)), H', ⟨Nat.le_refl _⟩, ⟨by first | exact Kd.R_nil _ _ _ _ _ | exact Kd.N_nil _ _ _ _ _ | exact Kd.V_nil _ _ _ _ _ | exact Kd.Q_nil _ _ _ _ _ | exact Kd.S_nil _ _ _ _ _⟩, ⟨by first | exact Kd.R_nil _ _ _ _ _ | exact Kd.N_nil _ _ _ _ _ | exact Kd.V_nil _ _ _ _ _ | exact Kd.Q_nil _ _ _ _ _ | exact Kd.S_nil _ _ _ _ _⟩, ⟨by (with_reducible repeat (first | refine blk_drewN ?_ _ | refine blk_drew ?_ | refine blk_alloc ?_ _)); refine blk_put (cs := #[.bool t117, .bool false]) ?_ 1 _ rfl; (with_reducible repeat (first | refine blk_drewN ?_ _ | refine blk_drew ?_ | refine blk_alloc ?_ _)); refine blk_put (cs := #[.bool false, .bool false]) ?_ 0 _ rfl; (with_reducible repeat (first | refine blk_drewN ?_ _ | refine blk_drew ?_ | refine blk_alloc ?_ _)); exact BK119.out⟩, ⟨by repeat (first | (with_reducible first | exact HB.out | apply below_alloc | apply pw_below_drewN | apply below_drew1 | refine below_set ?_ GE119.out) | exact HB.out)⟩⟩
      case round =>
        clear H'
        try clear c1
        try clear p2
        try clear c3
        try clear c5
        try clear c7
        try clear c8
        try clear hcz11_0
        try clear hcz11_1
        try clear hfz11_0
        try clear hfz11_1
        obtain ⟨x8_1, x9_1, x10_1, rfl, HA, HK1, HO_8, HO_9, BK119, HB⟩ := hrel
        cases gk with
        | zero => exact absurd HA.out (by simp [graverlaw10_DynrecNotes.l0])
        | succ k1 =>
          have H := HA.out
          clear HA
          simp only [graverlaw10_DynrecNotes.l0] at H
          by_cases c12 : x10_1 < (l1.length : Int)
          · rw [if_pos c12] at H
            have c12b0 : decide (x10_1 < (l1.length : Int)) = true := decide_eq_true c12
            clear c12
            (first | rw [c12b0] | (simp only [i64_w, i32_w]; rw [c12b0]) | skip)
            by_cases c13 : x10_1 < 8
            · rw [if_pos c13] at H
              have c13b0 : decide (x10_1 < 8) = true := decide_eq_true c13
              clear c13
              by_cases c14 : 0 ≤ x10_1
              · rw [if_pos c14] at H
                have c14b0 : decide (0 ≤ x10_1) = true := decide_eq_true c14
                clear c14
                obtain ⟨ji15, hji15⟩ : ∃ j_ : Int, (mn (((rd_T33 l1 x10_1).f1).size : Int) 40) = j_ := ⟨_, rfl⟩
                replace H : (if 0 ≤ (ji15) then (if (ji15) ≤ (((rd_T33 l1 x10_1).f1).size : Int) then (if 0 ≤ (mn (((rd_T33 l1 x10_1).f2).size : Int) 40) then (if (mn (((rd_T33 l1 x10_1).f2).size : Int) 40) ≤ (((rd_T33 l1 x10_1).f2).size : Int) then ((some (([(⟨(rd_T33 l1 x10_1).f0, ((rd_T33 l1 x10_1).f1).extract 0 ((ji15) : Int).toNat, ((rd_T33 l1 x10_1).f2).extract 0 ((mn (((rd_T33 l1 x10_1).f2).size : Int) 40) : Int).toNat⟩ : S34)] : List (S34)) : List (S34))).bind fun y122 => (if x8_1.length + y122.length < 3518437208883 then ((some (([(⟨(rd_T33 l1 x10_1).f0, ((rd_T33 l1 x10_1).f1).extract 0 ((ji15) : Int).toNat, ((rd_T33 l1 x10_1).f2).extract 0 ((mn (((rd_T33 l1 x10_1).f2).size : Int) 40) : Int).toNat⟩ : S35)] : List (S35)) : List (S35))).bind fun y128 => (if x9_1.length + y128.length < 3518437208883 then (graverlaw10_DynrecNotes.l0 k1 l1 a2 (x8_1 ++ y122) (x9_1 ++ y128) (wrap64 (x10_1 + 1)) t117 t118) else (none))) else (none))) else (none)) else (none)) else (none)) else (none)) = some r := by first | (rw [hji15] at H; exact H) | (simp only [hji15] at H ⊢; exact H)
                have hji15_ : (if 40 < (((rd_T33 l1 x10_1).f1).size : Int) then 40 else (((rd_T33 l1 x10_1).f1).size : Int)) = ji15 := hji15
                by_cases c16 : 0 ≤ (ji15)
                · rw [if_pos c16] at H
                  have c16b0 := eq_true c16
                  have c16b1 : decide (0 ≤ (ji15)) = true := decide_eq_true c16
                  clear c16
                  by_cases c17 : (ji15) ≤ (((rd_T33 l1 x10_1).f1).size : Int)
                  · rw [if_pos c17] at H
                    have c17b0 := eq_true c17
                    have c17b1 : decide ((ji15) ≤ (((rd_T33 l1 x10_1).f1).size : Int)) = true := decide_eq_true c17
                    clear c17
                    obtain ⟨ji18, hji18⟩ : ∃ j_ : Int, (mn (((rd_T33 l1 x10_1).f2).size : Int) 40) = j_ := ⟨_, rfl⟩
                    replace H : (if 0 ≤ (ji18) then (if (ji18) ≤ (((rd_T33 l1 x10_1).f2).size : Int) then ((some (([(⟨(rd_T33 l1 x10_1).f0, ((rd_T33 l1 x10_1).f1).extract 0 ((ji15) : Int).toNat, ((rd_T33 l1 x10_1).f2).extract 0 ((ji18) : Int).toNat⟩ : S34)] : List (S34)) : List (S34))).bind fun y122 => (if x8_1.length + y122.length < 3518437208883 then ((some (([(⟨(rd_T33 l1 x10_1).f0, ((rd_T33 l1 x10_1).f1).extract 0 ((ji15) : Int).toNat, ((rd_T33 l1 x10_1).f2).extract 0 ((ji18) : Int).toNat⟩ : S35)] : List (S35)) : List (S35))).bind fun y128 => (if x9_1.length + y128.length < 3518437208883 then (graverlaw10_DynrecNotes.l0 k1 l1 a2 (x8_1 ++ y122) (x9_1 ++ y128) (wrap64 (x10_1 + 1)) t117 t118) else (none))) else (none))) else (none)) else (none)) = some r := by first | (rw [hji18] at H; exact H) | (simp only [hji18] at H ⊢; exact H)
                    have hji18_ : (if 40 < (((rd_T33 l1 x10_1).f2).size : Int) then 40 else (((rd_T33 l1 x10_1).f2).size : Int)) = ji18 := hji18
                    by_cases c19 : 0 ≤ (ji18)
                    · rw [if_pos c19] at H
                      have c19b0 := eq_true c19
                      have c19b1 : decide (0 ≤ (ji18)) = true := decide_eq_true c19
                      clear c19
                      by_cases c20 : (ji18) ≤ (((rd_T33 l1 x10_1).f2).size : Int)
                      · rw [if_pos c20] at H
                        have c20b0 := eq_true c20
                        have c20b1 : decide ((ji18) ≤ (((rd_T33 l1 x10_1).f2).size : Int)) = true := decide_eq_true c20
                        clear c20
                        obtain ⟨y122, hy122⟩ : ∃ y_ : List (S34), y_ = (([(⟨(rd_T33 l1 x10_1).f0, ((rd_T33 l1 x10_1).f1).extract 0 ((ji15) : Int).toNat, ((rd_T33 l1 x10_1).f2).extract 0 ((ji18) : Int).toNat⟩ : S34)] : List (S34))) := ⟨_, rfl⟩
                        replace H : (if x8_1.length + y122.length < 3518437208883 then ((some (([(⟨(rd_T33 l1 x10_1).f0, ((rd_T33 l1 x10_1).f1).extract 0 ((ji15) : Int).toNat, ((rd_T33 l1 x10_1).f2).extract 0 ((ji18) : Int).toNat⟩ : S35)] : List (S35)) : List (S35))).bind fun y128 => (if x9_1.length + y128.length < 3518437208883 then (graverlaw10_DynrecNotes.l0 k1 l1 a2 (x8_1 ++ y122) (x9_1 ++ y128) (wrap64 (x10_1 + 1)) t117 t118) else (none))) else (none)) = some r := by first | (rw [hy122]; with_reducible exact H) | (have H2_ := (Option.bind_some _ _).symm.trans H; rw [hy122]; with_reducible exact H2_) | (have H2_ := (Option.bind_some _ _).symm.trans H; with_reducible exact H2_) | with_reducible exact H | (rw [hy122]; exact H) | exact H
                        have Ny122 := Aside0.mk hy122
                        clear hy122
                        by_cases c21 : x8_1.length + y122.length < 3518437208883
                        · rw [if_pos c21] at H
                          have LMc21 := Aside0.mk c21
                          clear c21
                          obtain ⟨y125, hy125⟩ : ∃ y_ : List (S34), y_ = (x8_1 ++ y122) := ⟨_, rfl⟩
                          replace H : ((some (([(⟨(rd_T33 l1 x10_1).f0, ((rd_T33 l1 x10_1).f1).extract 0 ((ji15) : Int).toNat, ((rd_T33 l1 x10_1).f2).extract 0 ((ji18) : Int).toNat⟩ : S35)] : List (S35)) : List (S35))).bind fun y128 => (if x9_1.length + y128.length < 3518437208883 then (graverlaw10_DynrecNotes.l0 k1 l1 a2 y125 (x9_1 ++ y128) (wrap64 (x10_1 + 1)) t117 t118) else (none))) = some r := by first | (rw [hy125]; with_reducible exact H) | (have H2_ := (Option.bind_some _ _).symm.trans H; rw [hy125]; with_reducible exact H2_) | (have H2_ := (Option.bind_some _ _).symm.trans H; with_reducible exact H2_) | with_reducible exact H | (rw [hy125]; exact H) | exact H
                          have Ny125 := Aside0.mk hy125
                          clear hy125
                          obtain ⟨y128, hy128⟩ : ∃ y_ : List (S35), y_ = (([(⟨(rd_T33 l1 x10_1).f0, ((rd_T33 l1 x10_1).f1).extract 0 ((ji15) : Int).toNat, ((rd_T33 l1 x10_1).f2).extract 0 ((ji18) : Int).toNat⟩ : S35)] : List (S35))) := ⟨_, rfl⟩
                          replace H : (if x9_1.length + y128.length < 3518437208883 then (graverlaw10_DynrecNotes.l0 k1 l1 a2 y125 (x9_1 ++ y128) (wrap64 (x10_1 + 1)) t117 t118) else (none)) = some r := by first | (rw [hy128]; with_reducible exact H) | (have H2_ := (Option.bind_some _ _).symm.trans H; rw [hy128]; with_reducible exact H2_) | (have H2_ := (Option.bind_some _ _).symm.trans H; with_reducible exact H2_) | with_reducible exact H | (rw [hy128]; exact H) | exact H
                          have Ny128 := Aside0.mk hy128
                          clear hy128
                          by_cases c22 : x9_1.length + y128.length < 3518437208883
                          · rw [if_pos c22] at H
                            have LMc22 := Aside0.mk c22
                            clear c22
                            obtain ⟨y131, hy131⟩ : ∃ y_ : List (S35), y_ = (x9_1 ++ y128) := ⟨_, rfl⟩
                            replace H : (graverlaw10_DynrecNotes.l0 k1 l1 a2 y125 y131 (wrap64 (x10_1 + 1)) t117 t118) = some r := by first | (rw [hy131]; with_reducible exact H) | (have H2_ := (Option.bind_some _ _).symm.trans H; rw [hy131]; with_reducible exact H2_) | (have H2_ := (Option.bind_some _ _).symm.trans H; with_reducible exact H2_) | with_reducible exact H | (rw [hy131]; exact H) | exact H
                            have Ny131 := Aside0.mk hy131
                            clear hy131
                            have H' := Aside0.mk H
                            clear H
                            have p120 : 0 ≤ (x10_1 : Int) := of_decide_eq_true (by first | (with_reducible assumption) | assumption)
                            have q120 : x10_1 < (l1.length : Int) := of_decide_eq_true (by first | (with_reducible assumption) | assumption)
                            obtain ⟨ad120, e120, hx120_0, hx120_1, hx120_2⟩ := at_T33 HR1.out x10_1 p120 q120
                            cases e120
                            replace hx120_0 := (HB.out.cell (World.block_lt_of_cell? w _ hx120_0)).trans hx120_0
                            replace hx120_1 := (HB.out.cell (World.block_lt_of_cell? w _ hx120_1)).trans hx120_1
                            replace hx120_2 := (HB.out.cell (World.block_lt_of_cell? w _ hx120_2)).trans hx120_2
                            replace p120 := eq_true p120
                            replace q120 := eq_true q120
                            try go_wp2_with (first | ((with_reducible refine gate_dst (N := 11) rfl ?_); (try (refine gate_guard (by rfl) ?_; dsimp only)); refine box_event ?hg (N := 11) ?hd (cs := #[.int .u64 0, .string (⟨#[]⟩ : ByteArray), .string (⟨#[]⟩ : ByteArray)]) (t := 33) ?hr ?_; (case hd => rfl); (case hg => rfl); (case hr => first | (go_simp; done) | (go_simp; rfl)); intro gb121 hg w23 hbox hb; have n0_ := Aside0.mk (Kd.R_below (by (with_reducible repeat (first | apply Kd.R_alloc | apply Kd.R_drewN | apply Kd.R_drew)); exact HO_8.out) hb); have n1_ := Aside0.mk (Kd.R_below (by (with_reducible repeat (first | apply Kd.R_alloc | apply Kd.R_drewN | apply Kd.R_drew)); exact HO_9.out) hb); have n2_ := Aside0.mk (blk_below (g := gb119) (o := .cells #[.bool t117, .bool t118] 27 (0, 0)) (by (with_reducible repeat (first | refine blk_drewN ?_ _ | refine blk_drew ?_ | refine blk_alloc ?_ _)); exact BK119.out) hb); have n3_ := Aside0.mk (below_step (by repeat (first | (with_reducible first | exact HB.out | apply below_alloc | apply pw_below_drewN | apply below_drew1 | refine below_set ?_ GE119.out) | exact HB.out)) hb); have n4_ := Aside0.mk (hbox); have n5_ := Aside0.mk ((by rw [hg]; exact (below_size (by repeat (first | (with_reducible first | exact HB.out | apply below_alloc | apply pw_below_drewN | apply below_drew1 | refine below_set ?_ GE119.out) | exact HB.out))) : w.heap.size ≤ gb121)); have n6_ := Aside0.mk ((by rw [hg]; exact (below_size (by repeat (first | (with_reducible first | exact HB.out | apply below_alloc | apply pw_below_drewN | apply below_drew1 | refine below_set ?_ GE119.out) | exact HB.out))) : w.heap.size ≤ gb121)); have n7_ := Aside0.mk ((by rw [hg]; exact Nat.ne_of_lt (blk_lt (g := gb119) (o := .cells #[.bool t117, .bool t118] 27 (0, 0)) (by (with_reducible repeat (first | refine blk_drewN ?_ _ | refine blk_drew ?_ | refine blk_alloc ?_ _)); exact BK119.out)) : gb119 ≠ gb121)); have n8_ := Aside0.mk ((by rw [hg]; exact Nat.ne_of_gt (blk_lt (g := gb119) (o := .cells #[.bool t117, .bool t118] 27 (0, 0)) (by (with_reducible repeat (first | refine blk_drewN ?_ _ | refine blk_drew ?_ | refine blk_alloc ?_ _)); exact BK119.out)) : gb121 ≠ gb119)); clear HO_8; clear HO_9; clear BK119; clear HB; have HO_8 := n0_; have HO_9 := n1_; have BK119 := n2_; have HB := n3_; have BK121 := n4_; have GW121 := n5_; have GE121 := n6_; have NB119_121 := n7_; have NB121_119 := n8_; clear n0_ n1_ n2_ n3_ n4_ n5_ n6_ n7_ n8_; clear hb hbox hg; have hnb24 := NB121_119.out; have hnc24 := NB119_121.out; have hcz25_0 : w23.cell? ⟨gb121, 0, none⟩ = some (.int .u64 0) := (blk_cell BK121.out 0).trans rfl; have hcz25_1 : w23.cell? ⟨gb121, 1, none⟩ = some (.string (⟨#[]⟩ : ByteArray)) := (blk_cell BK121.out 1).trans rfl; have hcz25_2 : w23.cell? ⟨gb121, 2, none⟩ = some (.string (⟨#[]⟩ : ByteArray)) := (blk_cell BK121.out 2).trans rfl; have hfz25_0 := blk_frozen BK121.out 0; have hfz25_1 := blk_frozen BK121.out 1; have hfz25_2 := blk_frozen BK121.out 2))
                            have n0_ : Aside0 (Kd.R k34 34 (((w23.setCell ⟨gb121, 0, none⟩ (.int .u64 ((rd_T33 l1 x10_1).f0))).setCell ⟨gb121, 1, none⟩ (.string ((rd_T33 l1 x10_1).f1))).setCell ⟨gb121, 2, none⟩ (.string ((rd_T33 l1 x10_1).f2))) w.heap.size (fun _ => True) u8 x8_1) := ⟨by (with_reducible repeat (first | apply Kd.R_alloc | apply Kd.R_drewN | apply Kd.R_drew)); exact Kd.R_mono (Kd.R_far (p := ⟨gb121, 2, none⟩) (Kd.R_far (p := ⟨gb121, 1, none⟩) (Kd.R_far (p := ⟨gb121, 0, none⟩) (Kd.R_types HO_8.out BK121.out (by decide)) (fun _ hk => hk.2) (.int .u64 ((rd_T33 l1 x10_1).f0))) (fun _ hk => hk.2) (.string ((rd_T33 l1 x10_1).f1))) (fun _ hk => hk.2) (.string ((rd_T33 l1 x10_1).f2))) (fun _ hk => trivial)⟩
                            have n1_ : Aside0 (Kd.R k35 35 (((w23.setCell ⟨gb121, 0, none⟩ (.int .u64 ((rd_T33 l1 x10_1).f0))).setCell ⟨gb121, 1, none⟩ (.string ((rd_T33 l1 x10_1).f1))).setCell ⟨gb121, 2, none⟩ (.string ((rd_T33 l1 x10_1).f2))) w.heap.size (fun _ => True) u9 x9_1) := ⟨by (with_reducible repeat (first | apply Kd.R_alloc | apply Kd.R_drewN | apply Kd.R_drew)); exact Kd.R_mono (Kd.R_far (p := ⟨gb121, 2, none⟩) (Kd.R_far (p := ⟨gb121, 1, none⟩) (Kd.R_far (p := ⟨gb121, 0, none⟩) (Kd.R_types HO_9.out BK121.out (by decide)) (fun _ hk => hk.2) (.int .u64 ((rd_T33 l1 x10_1).f0))) (fun _ hk => hk.2) (.string ((rd_T33 l1 x10_1).f1))) (fun _ hk => hk.2) (.string ((rd_T33 l1 x10_1).f2))) (fun _ hk => trivial)⟩
                            have n2_ : Aside0 ((((w23.setCell ⟨gb121, 0, none⟩ (.int .u64 ((rd_T33 l1 x10_1).f0))).setCell ⟨gb121, 1, none⟩ (.string ((rd_T33 l1 x10_1).f1))).setCell ⟨gb121, 2, none⟩ (.string ((rd_T33 l1 x10_1).f2))).heap[gb119]? = some (.cells #[.bool t117, .bool t118] 27 (0, 0))) := ⟨by (with_reducible repeat (first | refine blk_drewN ?_ _ | refine blk_drew ?_ | refine blk_alloc ?_ _)); refine blk_far ?_ NB119_121.out _; (with_reducible repeat (first | refine blk_drewN ?_ _ | refine blk_drew ?_ | refine blk_alloc ?_ _)); refine blk_far ?_ NB119_121.out _; (with_reducible repeat (first | refine blk_drewN ?_ _ | refine blk_drew ?_ | refine blk_alloc ?_ _)); refine blk_far ?_ NB119_121.out _; (with_reducible repeat (first | refine blk_drewN ?_ _ | refine blk_drew ?_ | refine blk_alloc ?_ _)); exact BK119.out⟩
                            have n3_ : Aside0 ((((w23.setCell ⟨gb121, 0, none⟩ (.int .u64 ((rd_T33 l1 x10_1).f0))).setCell ⟨gb121, 1, none⟩ (.string ((rd_T33 l1 x10_1).f1))).setCell ⟨gb121, 2, none⟩ (.string ((rd_T33 l1 x10_1).f2))).heap[gb121]? = some (.cells #[.int .u64 ((rd_T33 l1 x10_1).f0), .string ((rd_T33 l1 x10_1).f1), .string ((rd_T33 l1 x10_1).f2)] 33 (0, 0))) := ⟨by (with_reducible repeat (first | refine blk_drewN ?_ _ | refine blk_drew ?_ | refine blk_alloc ?_ _)); refine blk_put (cs := #[.int .u64 ((rd_T33 l1 x10_1).f0), .string ((rd_T33 l1 x10_1).f1), .string (⟨#[]⟩ : ByteArray)]) ?_ 2 _ rfl; (with_reducible repeat (first | refine blk_drewN ?_ _ | refine blk_drew ?_ | refine blk_alloc ?_ _)); refine blk_put (cs := #[.int .u64 ((rd_T33 l1 x10_1).f0), .string (⟨#[]⟩ : ByteArray), .string (⟨#[]⟩ : ByteArray)]) ?_ 1 _ rfl; (with_reducible repeat (first | refine blk_drewN ?_ _ | refine blk_drew ?_ | refine blk_alloc ?_ _)); refine blk_put (cs := #[.int .u64 0, .string (⟨#[]⟩ : ByteArray), .string (⟨#[]⟩ : ByteArray)]) ?_ 0 _ rfl; (with_reducible repeat (first | refine blk_drewN ?_ _ | refine blk_drew ?_ | refine blk_alloc ?_ _)); exact BK121.out⟩
                            have n4_ : Aside0 (Below w.heap.size w (((w23.setCell ⟨gb121, 0, none⟩ (.int .u64 ((rd_T33 l1 x10_1).f0))).setCell ⟨gb121, 1, none⟩ (.string ((rd_T33 l1 x10_1).f1))).setCell ⟨gb121, 2, none⟩ (.string ((rd_T33 l1 x10_1).f2)))) := ⟨by repeat (first | (with_reducible first | exact HB.out | apply below_alloc | apply pw_below_drewN | apply below_drew1 | refine below_set ?_ GE119.out | refine below_set ?_ GE121.out) | exact HB.out)⟩
                            (try clear HO_8)
                            (try clear HO_9)
                            (try clear BK119)
                            (try clear BK121)
                            (try clear HB)
                            generalize (((w23.setCell ⟨gb121, 0, none⟩ (.int .u64 ((rd_T33 l1 x10_1).f0))).setCell ⟨gb121, 1, none⟩ (.string ((rd_T33 l1 x10_1).f1))).setCell ⟨gb121, 2, none⟩ (.string ((rd_T33 l1 x10_1).f2))) = w26 at n0_ n1_ n2_ n3_ n4_ ⊢
                            have HO_8 := n0_
                            have HO_9 := n1_
                            have BK119 := n2_
                            have BK121 := n3_
                            have HB := n4_
                            clear n0_ n1_ n2_ n3_ n4_
                            have n0_ := Aside0.mk (Kd.R_drew HO_8.out)
                            have n1_ := Aside0.mk (Kd.R_drew HO_9.out)
                            have n2_ := Aside0.mk (blk_drew BK119.out)
                            have n3_ := Aside0.mk (blk_drew BK121.out)
                            have n4_ := Aside0.mk (below_drew1 HB.out)
                            clear HO_8
                            clear HO_9
                            clear BK119
                            clear BK121
                            clear HB
                            have HO_8 := n0_
                            have HO_9 := n1_
                            have BK119 := n2_
                            have BK121 := n3_
                            have HB := n4_
                            clear n0_ n1_ n2_ n3_ n4_
                            refine start_ (n := 18) (S := fun w' => w'.cell? ⟨gb121, 0, none⟩ = some (.int .u64 ((rd_T33 l1 x10_1).f0)) ∧ w'.cell? ⟨gb121, 1, none⟩ = some (.string ((rd_T33 l1 x10_1).f1)) ∧ w'.cell? ⟨gb121, 2, none⟩ = some (.string ((rd_T33 l1 x10_1).f2))) (ds := [15, 17]) #[false, false, false, false, false, false, false, false, false, false, false, false, false, false, false, false, false, false] (by kernel_rfl) rfl rfl ⟨(blk_cell BK121.out 0).trans rfl, (blk_cell BK121.out 1).trans rfl, (blk_cell BK121.out 2).trans rfl⟩ (fun hHeld => ?_); refine with_tabW graverlaw10_DynrecNotes.tab10 graverlaw10_DynrecNotes.bits10 (fun HT_ HW_ => ?_)
                            generalize w26.drew = w27 at HO_8 HO_9 BK119 BK121 HB hHeld ⊢
                            refine pure_ (i := 0) (N := some 43) (v := ?_) (a' := ?_) #[true, false, false, false, false, false, false, false, false, false, false, false, false, false, false, false, false, false] rfl rfl (any_of HT_.out (by kernel_rfl)) (fun _ _ _ h => h) (Or.inl ⟨by rfl, ?_⟩) ?_ ?_
                            rotate_left
                            · intro w'
                              go_simp
                              first | with_reducible rfl | (rw [if_neg (by (try simp only [ByteArray.size_extract, ByteArray.size_append] at *); omega)]; first | done | with_reducible rfl)
                            rotate_left
                            · simp only [Act.put, List.setIfInBounds_toArray, List.set_cons_zero, List.set_cons_succ, i64_w, i32_w]
                              rfl
                            refine pure_ (i := 2) (N := some 45) (v := ?_) (a' := ?_) #[true, false, true, false, false, false, false, false, false, false, false, false, false, false, false, false, false, false] rfl rfl (any_of HT_.out (by kernel_rfl)) (fun _ _ _ h => h) (Or.inl ⟨by rfl, ?_⟩) ?_ ?_
                            rotate_left
                            · intro w'
                              go_simp
                              first | with_reducible rfl | (rw [if_neg (by (try simp only [ByteArray.size_extract, ByteArray.size_append] at *); omega)]; first | done | with_reducible rfl)
                            rotate_left
                            · simp only [Act.put, List.setIfInBounds_toArray, List.set_cons_zero, List.set_cons_succ, i64_w, i32_w]
                              rfl
                            refine pure_ (i := 7) (N := some 50) (v := ?_) (a' := ?_) #[true, false, true, false, false, false, false, true, false, false, false, false, false, false, false, false, false, false] rfl rfl (any_of HT_.out (by kernel_rfl)) (fun _ _ _ h => h) (Or.inl ⟨by rfl, ?_⟩) ?_ ?_
                            rotate_left
                            · intro w'
                              go_simp
                              first | with_reducible rfl | (rw [if_neg (by (try simp only [ByteArray.size_extract, ByteArray.size_append] at *); omega)]; first | done | with_reducible rfl)
                            rotate_left
                            · simp only [Act.put, List.setIfInBounds_toArray, List.set_cons_zero, List.set_cons_succ, i64_w, i32_w]
                              rfl
                            refine pure_ (i := 9) (N := some 52) (v := ?_) (a' := ?_) #[true, false, true, false, false, false, false, true, false, true, false, false, false, false, false, false, false, false] rfl rfl (any_of HT_.out (by kernel_rfl)) (fun _ _ _ h => h) (Or.inl ⟨by rfl, ?_⟩) ?_ ?_
                            rotate_left
                            · intro w'
                              go_simp
                              first | with_reducible rfl | (rw [if_neg (by (try simp only [ByteArray.size_extract, ByteArray.size_append] at *); omega)]; first | done | with_reducible rfl)
                            rotate_left
                            · simp only [Act.put, List.setIfInBounds_toArray, List.set_cons_zero, List.set_cons_succ, i64_w, i32_w]
                              rfl
                            refine take_ (i := 1) (N := some 44) (v := ?_) (a' := ?_) #[true, true, true, false, false, false, false, true, false, true, false, false, false, false, false, false, false, false] rfl rfl (take_ofW HT_.out HW_.out (by kernel_rfl)) (fun _ _ _ h => h) (Or.inl ⟨by rfl, ?_⟩) hHeld ?_ ?_
                            rotate_left
                            · rintro w' ⟨s0, s1, s2⟩
                              go_simp
                              first | with_reducible rfl | (rw [if_neg (by (try simp only [ByteArray.size_extract, ByteArray.size_append] at *); omega)]; first | done | with_reducible rfl)
                            rotate_left
                            · simp only [Act.put, List.setIfInBounds_toArray, List.set_cons_zero, List.set_cons_succ, i64_w, i32_w]
                              rfl
                            refine take_ (i := 3) (N := some 46) (v := ?_) (a' := ?_) #[true, true, true, true, false, false, false, true, false, true, false, false, false, false, false, false, false, false] rfl rfl (take_ofW HT_.out HW_.out (by kernel_rfl)) (fun _ _ _ h => h) (Or.inl ⟨by rfl, ?_⟩) hHeld ?_ ?_
                            rotate_left
                            · rintro w' ⟨s0, s1, s2⟩
                              go_simp
                              first | with_reducible rfl | (rw [if_neg (by (try simp only [ByteArray.size_extract, ByteArray.size_append] at *); omega)]; first | done | with_reducible rfl)
                            rotate_left
                            · simp only [Act.put, List.setIfInBounds_toArray, List.set_cons_zero, List.set_cons_succ, i64_w, i32_w]
                              rfl
                            refine pure_ (i := 4) (N := some 47) (v := ?_) (a' := ?_) #[true, true, true, true, true, false, false, true, false, true, false, false, false, false, false, false, false, false] rfl rfl (any_of HT_.out (by kernel_rfl)) (fun _ _ _ h => h) (Or.inl ⟨by rfl, ?_⟩) ?_ ?_
                            rotate_left
                            · intro w'
                              go_simp
                              first | with_reducible rfl | (rw [if_neg (by (try simp only [ByteArray.size_extract, ByteArray.size_append] at *); omega)]; first | done | with_reducible rfl)
                            rotate_left
                            · simp only [Act.put, List.setIfInBounds_toArray, List.set_cons_zero, List.set_cons_succ, i64_w, i32_w]
                              rfl
                            refine pure_ (i := 5) (N := some 48) (v := ?_) (a' := ?_) #[true, true, true, true, true, true, false, true, false, true, false, false, false, false, false, false, false, false] rfl rfl (any_of HT_.out (by kernel_rfl)) (fun _ _ _ h => h) (Or.inl ⟨by rfl, ?_⟩) ?_ ?_
                            rotate_left
                            · intro w'
                              go_simp
                              first | with_reducible rfl | (rw [if_neg (by (try simp only [ByteArray.size_extract, ByteArray.size_append] at *); omega)]; first | done | with_reducible rfl)
                            rotate_left
                            · simp only [Act.put, List.setIfInBounds_toArray, List.set_cons_zero, List.set_cons_succ, i64_w, i32_w]
                              rfl
                            refine pure_ (i := 6) (N := some 49) (v := ?_) (a' := ?_) #[true, true, true, true, true, true, true, true, false, true, false, false, false, false, false, false, false, false] rfl rfl (any_of HT_.out (by kernel_rfl)) (fun _ _ _ h => h) (Or.inl ⟨by rfl, ?_⟩) ?_ ?_
                            rotate_left
                            · intro w'
                              go_simp
                              first | with_reducible rfl | (rw [if_neg (by (try simp only [ByteArray.size_extract, ByteArray.size_append] at *); omega)]; first | done | with_reducible rfl)
                            rotate_left
                            · simp only [Act.put, List.setIfInBounds_toArray, List.set_cons_zero, List.set_cons_succ, i64_w, i32_w]
                              rfl
                            refine take_ (i := 8) (N := some 51) (v := ?_) (a' := ?_) #[true, true, true, true, true, true, true, true, true, true, false, false, false, false, false, false, false, false] rfl rfl (take_ofW HT_.out HW_.out (by kernel_rfl)) (fun _ _ _ h => h) (Or.inl ⟨by rfl, ?_⟩) hHeld ?_ ?_
                            rotate_left
                            · rintro w' ⟨s0, s1, s2⟩
                              go_simp
                              first | with_reducible rfl | (rw [if_neg (by (try simp only [ByteArray.size_extract, ByteArray.size_append] at *); omega)]; first | done | with_reducible rfl)
                            rotate_left
                            · simp only [Act.put, List.setIfInBounds_toArray, List.set_cons_zero, List.set_cons_succ, i64_w, i32_w]
                              rfl
                            refine take_ (i := 10) (N := some 53) (v := ?_) (a' := ?_) #[true, true, true, true, true, true, true, true, true, true, true, false, false, false, false, false, false, false] rfl rfl (take_ofW HT_.out HW_.out (by kernel_rfl)) (fun _ _ _ h => h) (Or.inl ⟨by rfl, ?_⟩) hHeld ?_ ?_
                            rotate_left
                            · rintro w' ⟨s0, s1, s2⟩
                              go_simp
                              first | with_reducible rfl | (rw [if_neg (by (try simp only [ByteArray.size_extract, ByteArray.size_append] at *); omega)]; first | done | with_reducible rfl)
                            rotate_left
                            · simp only [Act.put, List.setIfInBounds_toArray, List.set_cons_zero, List.set_cons_succ, i64_w, i32_w]
                              rfl
                            refine pure_ (i := 11) (N := some 54) (v := ?_) (a' := ?_) #[true, true, true, true, true, true, true, true, true, true, true, true, false, false, false, false, false, false] rfl rfl (any_of HT_.out (by kernel_rfl)) (fun _ _ _ h => h) (Or.inl ⟨by rfl, ?_⟩) ?_ ?_
                            rotate_left
                            · intro w'
                              go_simp
                              first | with_reducible rfl | (rw [if_neg (by (try simp only [ByteArray.size_extract, ByteArray.size_append] at *); omega)]; first | done | with_reducible rfl)
                            rotate_left
                            · simp only [Act.put, List.setIfInBounds_toArray, List.set_cons_zero, List.set_cons_succ, i64_w, i32_w]
                              rfl
                            refine pure_ (i := 12) (N := some 55) (v := ?_) (a' := ?_) #[true, true, true, true, true, true, true, true, true, true, true, true, true, false, false, false, false, false] rfl rfl (any_of HT_.out (by kernel_rfl)) (fun _ _ _ h => h) (Or.inl ⟨by rfl, ?_⟩) ?_ ?_
                            rotate_left
                            · intro w'
                              go_simp
                              first | with_reducible rfl | (rw [if_neg (by (try simp only [ByteArray.size_extract, ByteArray.size_append] at *); omega)]; first | done | with_reducible rfl)
                            rotate_left
                            · simp only [Act.put, List.setIfInBounds_toArray, List.set_cons_zero, List.set_cons_succ, i64_w, i32_w]
                              rfl
                            refine pure_ (i := 13) (N := some 56) (v := ?_) (a' := ?_) #[true, true, true, true, true, true, true, true, true, true, true, true, true, true, false, false, false, false] rfl rfl (any_of HT_.out (by kernel_rfl)) (fun _ _ _ h => h) (Or.inl ⟨by rfl, ?_⟩) ?_ ?_
                            rotate_left
                            · intro w'
                              go_simp
                              first | with_reducible rfl | (rw [if_neg (by (try simp only [ByteArray.size_extract, ByteArray.size_append] at *); omega)]; first | done | with_reducible rfl)
                            rotate_left
                            · simp only [Act.put, List.setIfInBounds_toArray, List.set_cons_zero, List.set_cons_succ, i64_w, i32_w]
                              rfl
                            refine pure_ (i := 14) (N := some 57) (v := ?_) (a' := ?_) #[true, true, true, true, true, true, true, true, true, true, true, true, true, true, true, false, false, false] rfl rfl (any_of HT_.out (by kernel_rfl)) (fun _ _ _ h => h) (Or.inl ⟨by rfl, ?_⟩) ?_ ?_
                            rotate_left
                            · intro w'
                              go_simp
                              first | with_reducible rfl | (rw [if_neg (by (try simp only [ByteArray.size_extract, ByteArray.size_append] at *); omega)]; first | done | with_reducible rfl)
                            rotate_left
                            · simp only [Act.put, List.setIfInBounds_toArray, List.set_cons_zero, List.set_cons_succ, i64_w, i32_w]
                              rfl
                            refine last_ (i := 15) (N := none) #[true, true, true, true, true, true, true, true, true, true, true, true, true, true, true, true, false, false] rfl rfl (one_of HT_.out (by kernel_rfl)) (by decide) (fun K hK => ?_)
                            have hs28 : w27.cell? ⟨gb121, 1, none⟩ = some (.string ((rd_T33 l1 x10_1).f1)) := (blk_cell BK121.out 1).trans rfl
                            have hfs28 := blk_frozen BK121.out 1
                            have hns28_0 := NB119_121.out
                            have hms28_0 := NB121_119.out
                            refine skip_ (w1 := ?_) (by rfl) rfl ?_ ?_
                            rotate_left
                            · go_simp
                              rfl
                            refine hK.out _ _ ?_
                            clear hK K
                            refine pure_ (i := 16) (N := some 58) (v := ?_) (a' := ?_) #[true, true, true, true, true, true, true, true, true, true, true, true, true, true, true, true, true, false] rfl rfl (any_of HT_.out (by kernel_rfl)) (fun _ _ _ h => h) (Or.inl ⟨by rfl, ?_⟩) ?_ ?_
                            rotate_left
                            · intro w'
                              go_simp
                              first | with_reducible rfl | (rw [if_neg (by (try simp only [ByteArray.size_extract, ByteArray.size_append] at *); omega)]; first | done | with_reducible rfl)
                            rotate_left
                            · simp only [Act.put, List.setIfInBounds_toArray, List.set_cons_zero, List.set_cons_succ, i64_w, i32_w]
                              rfl
                            refine last_ (i := 17) (N := none) #[true, true, true, true, true, true, true, true, true, true, true, true, true, true, true, true, true, true] rfl rfl (one_of HT_.out (by kernel_rfl)) (by decide) (fun K hK => ?_)
                            have hs29 : w27.cell? ⟨gb121, 2, none⟩ = some (.string ((rd_T33 l1 x10_1).f2)) := (blk_cell BK121.out 2).trans rfl
                            have hfs29 := blk_frozen BK121.out 2
                            have hns29_0 := NB119_121.out
                            have hms29_0 := NB121_119.out
                            refine skip_ (w1 := ?_) (by rfl) rfl ?_ ?_
                            rotate_left
                            · go_simp
                              rfl
                            refine hK.out _ _ ?_
                            clear hK K
                            refine done_ (done_of HT_.out (by kernel_rfl)) ?_
                            obtain ⟨Ao30, co30, eo30⟩ := Kd.R_slice HO_8.out
                            subst eo30
                            obtain ⟨Ao31, co31, eo31⟩ := Kd.R_slice HO_9.out
                            subst eo31
                            try go_wp2
                            have n0_ : Aside0 (Kd.R k34 34 ((w27.setCell ⟨gb121, 1, none⟩ (.string (((rd_T33 l1 x10_1).f1).extract 0 ((ji15) : Int).toNat))).setCell ⟨gb121, 2, none⟩ (.string (((rd_T33 l1 x10_1).f2).extract 0 ((ji18) : Int).toNat))) w.heap.size (fun _ => True) (.slice Ao30 x8_1.length co30) x8_1) := ⟨by (with_reducible repeat (first | apply Kd.R_alloc | apply Kd.R_drewN | apply Kd.R_drew)); exact Kd.R_mono (Kd.R_far (p := ⟨gb121, 2, none⟩) (Kd.R_far (p := ⟨gb121, 1, none⟩) (Kd.R_types HO_8.out BK121.out (by decide)) (fun _ hk => hk.2) (.string (((rd_T33 l1 x10_1).f1).extract 0 ((ji15) : Int).toNat))) (fun _ hk => hk.2) (.string (((rd_T33 l1 x10_1).f2).extract 0 ((ji18) : Int).toNat))) (fun _ hk => trivial)⟩
                            have n1_ : Aside0 (Kd.R k35 35 ((w27.setCell ⟨gb121, 1, none⟩ (.string (((rd_T33 l1 x10_1).f1).extract 0 ((ji15) : Int).toNat))).setCell ⟨gb121, 2, none⟩ (.string (((rd_T33 l1 x10_1).f2).extract 0 ((ji18) : Int).toNat))) w.heap.size (fun _ => True) (.slice Ao31 x9_1.length co31) x9_1) := ⟨by (with_reducible repeat (first | apply Kd.R_alloc | apply Kd.R_drewN | apply Kd.R_drew)); exact Kd.R_mono (Kd.R_far (p := ⟨gb121, 2, none⟩) (Kd.R_far (p := ⟨gb121, 1, none⟩) (Kd.R_types HO_9.out BK121.out (by decide)) (fun _ hk => hk.2) (.string (((rd_T33 l1 x10_1).f1).extract 0 ((ji15) : Int).toNat))) (fun _ hk => hk.2) (.string (((rd_T33 l1 x10_1).f2).extract 0 ((ji18) : Int).toNat))) (fun _ hk => trivial)⟩
                            have n2_ : Aside0 (((w27.setCell ⟨gb121, 1, none⟩ (.string (((rd_T33 l1 x10_1).f1).extract 0 ((ji15) : Int).toNat))).setCell ⟨gb121, 2, none⟩ (.string (((rd_T33 l1 x10_1).f2).extract 0 ((ji18) : Int).toNat))).heap[gb119]? = some (.cells #[.bool t117, .bool t118] 27 (0, 0))) := ⟨by (with_reducible repeat (first | refine blk_drewN ?_ _ | refine blk_drew ?_ | refine blk_alloc ?_ _)); refine blk_far ?_ NB119_121.out _; (with_reducible repeat (first | refine blk_drewN ?_ _ | refine blk_drew ?_ | refine blk_alloc ?_ _)); refine blk_far ?_ NB119_121.out _; (with_reducible repeat (first | refine blk_drewN ?_ _ | refine blk_drew ?_ | refine blk_alloc ?_ _)); exact BK119.out⟩
                            have n3_ : Aside0 (((w27.setCell ⟨gb121, 1, none⟩ (.string (((rd_T33 l1 x10_1).f1).extract 0 ((ji15) : Int).toNat))).setCell ⟨gb121, 2, none⟩ (.string (((rd_T33 l1 x10_1).f2).extract 0 ((ji18) : Int).toNat))).heap[gb121]? = some (.cells #[.int .u64 ((rd_T33 l1 x10_1).f0), .string (((rd_T33 l1 x10_1).f1).extract 0 ((ji15) : Int).toNat), .string (((rd_T33 l1 x10_1).f2).extract 0 ((ji18) : Int).toNat)] 33 (0, 0))) := ⟨by (with_reducible repeat (first | refine blk_drewN ?_ _ | refine blk_drew ?_ | refine blk_alloc ?_ _)); refine blk_put (cs := #[.int .u64 ((rd_T33 l1 x10_1).f0), .string (((rd_T33 l1 x10_1).f1).extract 0 ((ji15) : Int).toNat), .string ((rd_T33 l1 x10_1).f2)]) ?_ 2 _ rfl; (with_reducible repeat (first | refine blk_drewN ?_ _ | refine blk_drew ?_ | refine blk_alloc ?_ _)); refine blk_put (cs := #[.int .u64 ((rd_T33 l1 x10_1).f0), .string ((rd_T33 l1 x10_1).f1), .string ((rd_T33 l1 x10_1).f2)]) ?_ 1 _ rfl; (with_reducible repeat (first | refine blk_drewN ?_ _ | refine blk_drew ?_ | refine blk_alloc ?_ _)); exact BK121.out⟩
                            have n4_ : Aside0 (Below w.heap.size w ((w27.setCell ⟨gb121, 1, none⟩ (.string (((rd_T33 l1 x10_1).f1).extract 0 ((ji15) : Int).toNat))).setCell ⟨gb121, 2, none⟩ (.string (((rd_T33 l1 x10_1).f2).extract 0 ((ji18) : Int).toNat)))) := ⟨by repeat (first | (with_reducible first | exact HB.out | apply below_alloc | apply pw_below_drewN | apply below_drew1 | refine below_set ?_ GE119.out | refine below_set ?_ GE121.out) | exact HB.out)⟩
                            (try clear HO_8)
                            (try clear HO_9)
                            (try clear BK119)
                            (try clear BK121)
                            (try clear HB)
                            generalize ((w27.setCell ⟨gb121, 1, none⟩ (.string (((rd_T33 l1 x10_1).f1).extract 0 ((ji15) : Int).toNat))).setCell ⟨gb121, 2, none⟩ (.string (((rd_T33 l1 x10_1).f2).extract 0 ((ji18) : Int).toNat))) = w32 at n0_ n1_ n2_ n3_ n4_ ⊢
                            have HO_8 := n0_
                            have HO_9 := n1_
                            have BK119 := n2_
                            have BK121 := n3_
                            have HB := n4_
                            clear n0_ n1_ n2_ n3_ n4_
                            have n0_ := Aside0.mk (Kd.R_drew HO_8.out)
                            have n1_ := Aside0.mk (Kd.R_drew HO_9.out)
                            have n2_ := Aside0.mk (blk_drew BK119.out)
                            have n3_ := Aside0.mk (blk_drew BK121.out)
                            have n4_ := Aside0.mk (below_drew1 HB.out)
                            clear HO_8
                            clear HO_9
                            clear BK119
                            clear BK121
                            clear HB
                            have HO_8 := n0_
                            have HO_9 := n1_
                            have BK119 := n2_
                            have BK121 := n3_
                            have HB := n4_
                            clear n0_ n1_ n2_ n3_ n4_
                            refine start_ (n := 10) (S := fun w' => w'.cell? ⟨gb121, 0, none⟩ = some (.int .u64 ((rd_T33 l1 x10_1).f0)) ∧ w'.cell? ⟨gb121, 1, none⟩ = some (.string (((rd_T33 l1 x10_1).f1).extract 0 ((ji15) : Int).toNat)) ∧ w'.cell? ⟨gb121, 2, none⟩ = some (.string (((rd_T33 l1 x10_1).f2).extract 0 ((ji18) : Int).toNat))) (ds := []) #[false, false, false, false, false, false, false, false, false, false] (by kernel_rfl) rfl rfl ⟨(blk_cell BK121.out 0).trans rfl, (blk_cell BK121.out 1).trans rfl, (blk_cell BK121.out 2).trans rfl⟩ (fun hHeld => ?_); refine with_tabW graverlaw10_DynrecNotes.tab11 graverlaw10_DynrecNotes.bits11 (fun HT_ HW_ => ?_)
                            generalize w32.drew = w33 at HO_8 HO_9 BK119 BK121 HB hHeld ⊢
                            refine pure_ (i := 0) (N := some 59) (v := ?_) (a' := ?_) #[true, false, false, false, false, false, false, false, false, false] rfl rfl (any_of HT_.out (by kernel_rfl)) (fun _ _ _ h => h) (Or.inl ⟨by rfl, ?_⟩) ?_ ?_
                            rotate_left
                            · intro w'
                              go_simp
                              first | with_reducible rfl | (rw [if_neg (by (try simp only [ByteArray.size_extract, ByteArray.size_append] at *); omega)]; first | done | with_reducible rfl)
                            rotate_left
                            · simp only [Act.put, List.setIfInBounds_toArray, List.set_cons_zero, List.set_cons_succ, i64_w, i32_w]
                              rfl
                            refine pure_ (i := 4) (N := some 63) (v := ?_) (a' := ?_) #[true, false, false, false, true, false, false, false, false, false] rfl rfl (any_of HT_.out (by kernel_rfl)) (fun _ _ _ h => h) (Or.inl ⟨by rfl, ?_⟩) ?_ ?_
                            rotate_left
                            · intro w'
                              go_simp
                              first | with_reducible rfl | (rw [if_neg (by (try simp only [ByteArray.size_extract, ByteArray.size_append] at *); omega)]; first | done | with_reducible rfl)
                            rotate_left
                            · simp only [Act.put, List.setIfInBounds_toArray, List.set_cons_zero, List.set_cons_succ, i64_w, i32_w]
                              rfl
                            refine take_ (i := 1) (N := some 60) (v := ?_) (a' := ?_) #[true, true, false, false, true, false, false, false, false, false] rfl rfl (take_ofW HT_.out HW_.out (by kernel_rfl)) (fun _ _ _ h => h) (Or.inl ⟨by rfl, ?_⟩) hHeld ?_ ?_
                            rotate_left
                            · rintro w' ⟨s0, s1, s2⟩
                              go_simp
                              first | with_reducible rfl | (rw [if_neg (by (try simp only [ByteArray.size_extract, ByteArray.size_append] at *); omega)]; first | done | with_reducible rfl)
                            rotate_left
                            · simp only [Act.put, List.setIfInBounds_toArray, List.set_cons_zero, List.set_cons_succ, i64_w, i32_w]
                              rfl
                            refine take_ (i := 5) (N := some 64) (v := ?_) (a' := ?_) #[true, true, false, false, true, true, false, false, false, false] rfl rfl (take_ofW HT_.out HW_.out (by kernel_rfl)) (fun _ _ _ h => h) (Or.inl ⟨by rfl, ?_⟩) hHeld ?_ ?_
                            rotate_left
                            · rintro w' ⟨s0, s1, s2⟩
                              go_simp
                              first | with_reducible rfl | (rw [if_neg (by (try simp only [ByteArray.size_extract, ByteArray.size_append] at *); omega)]; first | done | with_reducible rfl)
                            rotate_left
                            · simp only [Act.put, List.setIfInBounds_toArray, List.set_cons_zero, List.set_cons_succ, i64_w, i32_w]
                              rfl
                            refine join_ (σ := Value × Value × Value) 3 #[true, true, true, true, true, true, true, false, false, false] (fun s_ => [(61, s_.1), (62, s_.2.1), (65, s_.2.2)]) (fun s_ w' => (w'.cell? ⟨gb121, 0, none⟩ = some (.int .u64 ((rd_T33 l1 x10_1).f0)) ∧ w'.cell? ⟨gb121, 1, none⟩ = some (.string (((rd_T33 l1 x10_1).f1).extract 0 ((ji15) : Int).toNat)) ∧ w'.cell? ⟨gb121, 2, none⟩ = some (.string (((rd_T33 l1 x10_1).f2).extract 0 ((ji18) : Int).toNat))) ∧ (Kd.R k34 34 w' w.heap.size (fun k_ => some k_ ≠ (s_.2.1 : Value).ownBlock) s_.1 y122) ∧ (Kd.R k34 34 w' w.heap.size (fun k_ => some k_ ≠ (s_.1 : Value).ownBlock) s_.2.1 y125) ∧ (Kd.R k35 35 w' w.heap.size (fun k_ => some k_ ≠ (.slice Ao31 x9_1.length co31 : Value).ownBlock) s_.2.2 y128) ∧ (Kd.R k35 35 w' w.heap.size (fun k_ => some k_ ≠ (s_.2.2 : Value).ownBlock) (.slice Ao31 x9_1.length co31) x9_1) ∧ (w'.heap[gb119]? = some (.cells #[.bool t117, .bool t118] 27 (0, 0))) ∧ (w'.heap[gb121]? = some (.cells #[.int .u64 ((rd_T33 l1 x10_1).f0), .string (((rd_T33 l1 x10_1).f1).extract 0 ((ji15) : Int).toNat), .string (((rd_T33 l1 x10_1).f2).extract 0 ((ji18) : Int).toNat)] 33 (0, 0))) ∧ (Below w.heap.size w w')) ?_ ?_
                            rotate_left
                            · intro hCont
                              refine two_ (i := 2) (j := 6) (Ni := some 61) (Nj := some 65) #[true, true, true, false, true, true, false, false, false, false] #[true, true, false, false, true, true, true, false, false, false] rfl rfl rfl rfl (two_of HT_.out (by kernel_rfl)) (by decide) (by decide) (fun K hK => ?_) (fun K hK => ?_)
                              · skip
                                refine Kd.R_lit_step k34 _ 34 ?hg (N := 61) ?hd (xs := ([(⟨(rd_T33 l1 x10_1).f0, ((rd_T33 l1 x10_1).f1).extract 0 ((ji15) : Int).toNat, ((rd_T33 l1 x10_1).f2).extract 0 ((ji18) : Int).toNat⟩ : S34)] : List (S34))) (inner := [.int .u64 ((rd_T33 l1 x10_1).f0), .string (((rd_T33 l1 x10_1).f1).extract 0 ((ji15) : Int).toNat), .string (((rd_T33 l1 x10_1).f2).extract 0 ((ji18) : Int).toNat)]) (ok := fun _ => True) (okp := fun _ => True) ?hr ?hp (fun _ hk => hk) trivial (Below.refl _ _) (Nat.le_refl _) (by simp) ?_; (case hd => rfl); (case hg => rfl); (case hr => first | (go_simp; done) | (go_simp; rfl)); (case hp => exact (Reps.c3 (show Kd.M k34 _ _ _ (⟨(rd_T33 l1 x10_1).f0, ((rd_T33 l1 x10_1).f1).extract 0 ((ji15) : Int).toNat, ((rd_T33 l1 x10_1).f2).extract 0 ((ji18) : Int).toNat⟩ : S34) [.int .u64 ((rd_T33 l1 x10_1).f0), .string (((rd_T33 l1 x10_1).f1).extract 0 ((ji15) : Int).toNat), .string (((rd_T33 l1 x10_1).f2).extract 0 ((ji18) : Int).toNat)] from (k34_mkM _ _ _ (⟨(rd_T33 l1 x10_1).f0, ((rd_T33 l1 x10_1).f1).extract 0 ((ji15) : Int).toNat, ((rd_T33 l1 x10_1).f2).extract 0 ((ji18) : Int).toNat⟩ : S34) )) (Reps.none _ _)))
                                intro v123 w34 ho35 hb hg_ hnew_
                                clear hg_ hnew_
                                (first | rw [← Ny122.out] at ho35 | (simp only [Int.reduceToNat] at ho35; rw [← Ny122.out] at ho35))
                                have n0_ := Aside0.mk (Kd.R_elder' (by (with_reducible repeat (first | apply Kd.R_alloc | apply Kd.R_drewN | apply Kd.R_drew)); exact HO_8.out) (Kd.R_base ho35) hb)
                                have n1_ := Aside0.mk (Kd.R_below (by (with_reducible repeat (first | apply Kd.R_alloc | apply Kd.R_drewN | apply Kd.R_drew)); exact HO_9.out) hb)
                                have n2_ := Aside0.mk (Kd.R_lower (Kd.R_new' ho35 (Kd.R_lt (by (with_reducible repeat (first | apply Kd.R_alloc | apply Kd.R_drewN | apply Kd.R_drew)); exact HO_8.out))) (below_size (by repeat (first | (with_reducible first | exact HB.out | apply below_alloc | apply pw_below_drewN | apply below_drew1 | refine below_set ?_ GE119.out | refine below_set ?_ GE121.out) | exact HB.out))))
                                have n3_ := Aside0.mk (blk_below (g := gb119) (o := .cells #[.bool t117, .bool t118] 27 (0, 0)) (by (with_reducible repeat (first | refine blk_drewN ?_ _ | refine blk_drew ?_ | refine blk_alloc ?_ _)); exact BK119.out) hb)
                                have n4_ := Aside0.mk (blk_below (g := gb121) (o := .cells #[.int .u64 ((rd_T33 l1 x10_1).f0), .string (((rd_T33 l1 x10_1).f1).extract 0 ((ji15) : Int).toNat), .string (((rd_T33 l1 x10_1).f2).extract 0 ((ji18) : Int).toNat)] 33 (0, 0)) (by (with_reducible repeat (first | refine blk_drewN ?_ _ | refine blk_drew ?_ | refine blk_alloc ?_ _)); exact BK121.out) hb)
                                have n5_ := Aside0.mk (below_step (by repeat (first | (with_reducible first | exact HB.out | apply below_alloc | apply pw_below_drewN | apply below_drew1 | refine below_set ?_ GE119.out | refine below_set ?_ GE121.out) | exact HB.out)) hb)
                                clear HO_8
                                clear HO_9
                                clear BK119
                                clear BK121
                                clear HB
                                have HO_8 := n0_
                                have HO_9 := n1_
                                have HO124 := n2_
                                have BK119 := n3_
                                have BK121 := n4_
                                have HB := n5_
                                clear n0_ n1_ n2_ n3_ n4_ n5_
                                clear hb ho35
                                obtain ⟨Ao37, co37, eo37⟩ := Kd.R_slice HO124.out
                                (first | subst eo37 | (injection eo37 with f1_ f2_ f3_; have f4_ := f1_.symm; have f5_ := f3_.symm; clear f1_ f2_ f3_; subst f4_; subst f5_))
                                refine hK.out _ _ ⟨(blk_cell BK121.out 0).trans rfl, (blk_cell BK121.out 1).trans rfl, (blk_cell BK121.out 2).trans rfl⟩ (fun hHeld => ?_)
                                clear hK K
                                refine norm_ (a' := ?_) ?_ ?_
                                rotate_left
                                · show Act.put _ (some 61) _ = _
                                  simp only [Act.put, List.setIfInBounds_toArray, List.set_cons_zero, List.set_cons_succ, i64_w, i32_w]
                                  rfl
                                refine two_ (i := 3) (j := 6) (Ni := some 62) (Nj := some 65) #[true, true, true, true, true, true, false, false, false, false] #[true, true, true, false, true, true, true, false, false, false] rfl rfl rfl rfl (two_of HT_.out (by kernel_rfl)) (by decide) (by decide) (fun K hK => ?_) (fun K hK => ?_)
                                · skip
                                  refine Kd.R_append_rows_step k34 (w0 := w) w.heap.size (by rfl) (.tmp 59) (.tmp 61) 29 34 (.agg #[(.int .u64 0), (.string ⟨#[]⟩), (.string ⟨#[]⟩)]) 40 rfl Tryd.underlying29 info34 rfl (by decide) (by omega) (.slice Ao30 x8_1.length co30) x8_1 y122 _ _ _ (fun k_ => some k_ ≠ (.slice Ao37 y122.length co37 : Value).ownBlock) (fun _ => False) rfl rfl ?aO ?aR (fun _ _ h => h) (fun _ h => h.elim) ?aF ?aB ?aS ?aL ?_
                                  (case aR => repeat (first | exact (Kd.R_reads' HO124.out).2.2 | (with_reducible refine Kd.C_alloc ?_ _) | (with_reducible refine Kd.C_drewN ?_ _) | (with_reducible refine Kd.C_drew ?_)))
                                  (case aB => exact (by repeat (first | (with_reducible first | exact HB.out | apply below_alloc | apply pw_below_drewN | apply below_drew1 | refine below_set ?_ GE119.out | refine below_set ?_ GE121.out) | exact HB.out)))
                                  (case aF => exact (fun k_ hk => Kd.fresh' (Kd.R_lt (by (with_reducible repeat (first | apply Kd.R_alloc | apply Kd.R_drewN | apply Kd.R_drew)); exact HO124.out)) k_ hk))
                                  (case aO => exact (by (with_reducible repeat (first | apply Kd.R_alloc | apply Kd.R_drewN | apply Kd.R_drew)); exact Kd.R_mono HO_8.out (fun _ hk => hk.2)))
                                  (case aS => exact (below_size (by repeat (first | (with_reducible first | exact HB.out | apply below_alloc | apply pw_below_drewN | apply below_drew1 | refine below_set ?_ GE119.out | refine below_set ?_ GE121.out) | exact HB.out))))
                                  (case aL => have := LMc21.out; omega)
                                  intro v126 w36 ho hb hg hat
                                  rw [← Ny125.out] at ho
                                  have n0_ := Aside0.mk (Kd.R_over' (by (with_reducible repeat (first | apply Kd.R_alloc | apply Kd.R_drewN | apply Kd.R_drew)); exact HO_9.out) (Kd.R_typed (by (with_reducible repeat (first | apply Kd.R_alloc | apply Kd.R_drewN | apply Kd.R_drew)); exact HO_8.out)) (by decide) hg)
                                  have n1_ := Aside0.mk (blk_grown (g := gb119) (o := .cells #[.bool t117, .bool t118] 27 (0, 0)) (by (with_reducible repeat (first | refine blk_drewN ?_ _ | refine blk_drew ?_ | refine blk_alloc ?_ _)); exact BK119.out) hg (Kd.R_ne HO_8.out BK119.out (by decide)))
                                  have n2_ := Aside0.mk (blk_grown (g := gb121) (o := .cells #[.int .u64 ((rd_T33 l1 x10_1).f0), .string (((rd_T33 l1 x10_1).f1).extract 0 ((ji15) : Int).toNat), .string (((rd_T33 l1 x10_1).f2).extract 0 ((ji18) : Int).toNat)] 33 (0, 0)) (by (with_reducible repeat (first | refine blk_drewN ?_ _ | refine blk_drew ?_ | refine blk_alloc ?_ _)); exact BK121.out) hg (Kd.R_ne HO_8.out BK121.out (by decide)))
                                  have n3_ := Aside0.mk (Kd.R_after (ok := (fun _ => True)) (by (with_reducible repeat (first | apply Kd.R_alloc | apply Kd.R_drewN | apply Kd.R_drew)); exact HO124.out) hg hat)
                                  have n4_ := Aside0.mk (hb)
                                  have n5_ := Aside0.mk (ho)
                                  clear HO_9
                                  clear BK119
                                  clear BK121
                                  clear HO124
                                  clear HB
                                  clear HO_8
                                  have HO_9 := n0_
                                  have BK119 := n1_
                                  have BK121 := n2_
                                  have HO124 := n3_
                                  have HB := n4_
                                  have HO127 := n5_
                                  clear n0_ n1_ n2_ n3_ n4_ n5_
                                  clear ho hb hg hat
                                  refine hK.out _ _ ⟨(blk_cell BK121.out 0).trans rfl, (blk_cell BK121.out 1).trans rfl, (blk_cell BK121.out 2).trans rfl⟩ (fun hHeld => ?_)
                                  clear hK K
                                  refine norm_ (a' := ?_) ?_ ?_
                                  rotate_left
                                  · show Act.put _ (some 62) _ = _
                                    simp only [Act.put, List.setIfInBounds_toArray, List.set_cons_zero, List.set_cons_succ, i64_w, i32_w]
                                    rfl
                                  refine one_ (i := 6) (N := some 65) #[true, true, true, true, true, true, true, false, false, false] rfl rfl (one_of HT_.out (by kernel_rfl)) (by decide) (fun K hK => ?_)
                                  refine Kd.R_lit_step k35 _ 35 ?hg (N := 65) ?hd (xs := ([(⟨(rd_T33 l1 x10_1).f0, ((rd_T33 l1 x10_1).f1).extract 0 ((ji15) : Int).toNat, ((rd_T33 l1 x10_1).f2).extract 0 ((ji18) : Int).toNat⟩ : S35)] : List (S35))) (inner := [.int .u64 ((rd_T33 l1 x10_1).f0), .string (((rd_T33 l1 x10_1).f1).extract 0 ((ji15) : Int).toNat), .string (((rd_T33 l1 x10_1).f2).extract 0 ((ji18) : Int).toNat)]) (ok := fun _ => True) (okp := fun _ => True) ?hr ?hp (fun _ hk => hk) trivial (Below.refl _ _) (Nat.le_refl _) (by simp) ?_; (case hd => rfl); (case hg => rfl); (case hr => first | (go_simp; done) | (go_simp; rfl)); (case hp => exact (Reps.c3 (show Kd.M k35 _ _ _ (⟨(rd_T33 l1 x10_1).f0, ((rd_T33 l1 x10_1).f1).extract 0 ((ji15) : Int).toNat, ((rd_T33 l1 x10_1).f2).extract 0 ((ji18) : Int).toNat⟩ : S35) [.int .u64 ((rd_T33 l1 x10_1).f0), .string (((rd_T33 l1 x10_1).f1).extract 0 ((ji15) : Int).toNat), .string (((rd_T33 l1 x10_1).f2).extract 0 ((ji18) : Int).toNat)] from (k35_mkM _ _ _ (⟨(rd_T33 l1 x10_1).f0, ((rd_T33 l1 x10_1).f1).extract 0 ((ji15) : Int).toNat, ((rd_T33 l1 x10_1).f2).extract 0 ((ji18) : Int).toNat⟩ : S35) )) (Reps.none _ _)))
                                  intro v129 w38 ho39 hb hg_ hnew_
                                  clear hg_ hnew_
                                  (first | rw [← Ny128.out] at ho39 | (simp only [Int.reduceToNat] at ho39; rw [← Ny128.out] at ho39))
                                  have n0_ := Aside0.mk (Kd.R_elder' (by (with_reducible repeat (first | apply Kd.R_alloc | apply Kd.R_drewN | apply Kd.R_drew)); exact HO_9.out) (Kd.R_base ho39) hb)
                                  have n1_ := Aside0.mk (Kd.R_below (by (with_reducible repeat (first | apply Kd.R_alloc | apply Kd.R_drewN | apply Kd.R_drew)); exact HO124.out) hb)
                                  have n2_ := Aside0.mk (Kd.R_below (by (with_reducible repeat (first | apply Kd.R_alloc | apply Kd.R_drewN | apply Kd.R_drew)); exact HO127.out) hb)
                                  have n3_ := Aside0.mk (Kd.R_lower (Kd.R_new' ho39 (Kd.R_lt (by (with_reducible repeat (first | apply Kd.R_alloc | apply Kd.R_drewN | apply Kd.R_drew)); exact HO_9.out))) (below_size (by repeat (first | (with_reducible first | exact HB.out | apply below_alloc | apply pw_below_drewN | apply below_drew1 | refine below_set ?_ GE119.out | refine below_set ?_ GE121.out) | exact HB.out))))
                                  have n4_ := Aside0.mk (blk_below (g := gb119) (o := .cells #[.bool t117, .bool t118] 27 (0, 0)) (by (with_reducible repeat (first | refine blk_drewN ?_ _ | refine blk_drew ?_ | refine blk_alloc ?_ _)); exact BK119.out) hb)
                                  have n5_ := Aside0.mk (blk_below (g := gb121) (o := .cells #[.int .u64 ((rd_T33 l1 x10_1).f0), .string (((rd_T33 l1 x10_1).f1).extract 0 ((ji15) : Int).toNat), .string (((rd_T33 l1 x10_1).f2).extract 0 ((ji18) : Int).toNat)] 33 (0, 0)) (by (with_reducible repeat (first | refine blk_drewN ?_ _ | refine blk_drew ?_ | refine blk_alloc ?_ _)); exact BK121.out) hb)
                                  have n6_ := Aside0.mk (below_step (by repeat (first | (with_reducible first | exact HB.out | apply below_alloc | apply pw_below_drewN | apply below_drew1 | refine below_set ?_ GE119.out | refine below_set ?_ GE121.out) | exact HB.out)) hb)
                                  clear HO_9
                                  clear HO124
                                  clear HO127
                                  clear BK119
                                  clear BK121
                                  clear HB
                                  have HO_9 := n0_
                                  have HO124 := n1_
                                  have HO127 := n2_
                                  have HO130 := n3_
                                  have BK119 := n4_
                                  have BK121 := n5_
                                  have HB := n6_
                                  clear n0_ n1_ n2_ n3_ n4_ n5_ n6_
                                  clear hb ho39
                                  refine hK.out _ _ ⟨(blk_cell BK121.out 0).trans rfl, (blk_cell BK121.out 1).trans rfl, (blk_cell BK121.out 2).trans rfl⟩ (fun hHeld => ?_)
                                  clear hK K
                                  refine norm_ (a' := ?_) ?_ ?_
                                  rotate_left
                                  · show Act.put _ (some 65) _ = _
                                    simp only [Act.put, List.setIfInBounds_toArray, List.set_cons_zero, List.set_cons_succ, i64_w, i32_w]
                                    rfl
                                  exact norm_ (by simp only [putAll, Act.put, List.setIfInBounds_toArray, List.set_cons_zero, List.set_cons_succ]) (hCont (.slice Ao37 y122.length co37, v126, v129) _ ⟨hHeld, (by (with_reducible repeat (first | apply Kd.R_alloc | apply Kd.R_drewN | apply Kd.R_drew)); exact Kd.R_mono HO124.out (fun _ hk => hk.2)), (by (with_reducible repeat (first | apply Kd.R_alloc | apply Kd.R_drewN | apply Kd.R_drew)); exact HO127.out), (by (with_reducible repeat (first | apply Kd.R_alloc | apply Kd.R_drewN | apply Kd.R_drew)); exact Kd.R_mono HO130.out (fun _ hk => hk.2)), (by (with_reducible repeat (first | apply Kd.R_alloc | apply Kd.R_drewN | apply Kd.R_drew)); exact Kd.R_mono HO_9.out (fun _ hk => hk.2)), (by (with_reducible repeat (first | refine blk_drewN ?_ _ | refine blk_drew ?_ | refine blk_alloc ?_ _)); exact BK119.out), (by (with_reducible repeat (first | refine blk_drewN ?_ _ | refine blk_drew ?_ | refine blk_alloc ?_ _)); exact BK121.out), (by repeat (first | (with_reducible first | exact HB.out | apply below_alloc | apply pw_below_drewN | apply below_drew1 | refine below_set ?_ GE119.out | refine below_set ?_ GE121.out) | exact HB.out))⟩)
                                · skip
                                  refine Kd.R_lit_step k35 _ 35 ?hg (N := 65) ?hd (xs := ([(⟨(rd_T33 l1 x10_1).f0, ((rd_T33 l1 x10_1).f1).extract 0 ((ji15) : Int).toNat, ((rd_T33 l1 x10_1).f2).extract 0 ((ji18) : Int).toNat⟩ : S35)] : List (S35))) (inner := [.int .u64 ((rd_T33 l1 x10_1).f0), .string (((rd_T33 l1 x10_1).f1).extract 0 ((ji15) : Int).toNat), .string (((rd_T33 l1 x10_1).f2).extract 0 ((ji18) : Int).toNat)]) (ok := fun _ => True) (okp := fun _ => True) ?hr ?hp (fun _ hk => hk) trivial (Below.refl _ _) (Nat.le_refl _) (by simp) ?_; (case hd => rfl); (case hg => rfl); (case hr => first | (go_simp; done) | (go_simp; rfl)); (case hp => exact (Reps.c3 (show Kd.M k35 _ _ _ (⟨(rd_T33 l1 x10_1).f0, ((rd_T33 l1 x10_1).f1).extract 0 ((ji15) : Int).toNat, ((rd_T33 l1 x10_1).f2).extract 0 ((ji18) : Int).toNat⟩ : S35) [.int .u64 ((rd_T33 l1 x10_1).f0), .string (((rd_T33 l1 x10_1).f1).extract 0 ((ji15) : Int).toNat), .string (((rd_T33 l1 x10_1).f2).extract 0 ((ji18) : Int).toNat)] from (k35_mkM _ _ _ (⟨(rd_T33 l1 x10_1).f0, ((rd_T33 l1 x10_1).f1).extract 0 ((ji15) : Int).toNat, ((rd_T33 l1 x10_1).f2).extract 0 ((ji18) : Int).toNat⟩ : S35) )) (Reps.none _ _)))
                                  intro v129 w36 ho37 hb hg_ hnew_
                                  clear hg_ hnew_
                                  (first | rw [← Ny128.out] at ho37 | (simp only [Int.reduceToNat] at ho37; rw [← Ny128.out] at ho37))
                                  have n0_ := Aside0.mk (Kd.R_below (by (with_reducible repeat (first | apply Kd.R_alloc | apply Kd.R_drewN | apply Kd.R_drew)); exact HO_8.out) hb)
                                  have n1_ := Aside0.mk (Kd.R_elder' (by (with_reducible repeat (first | apply Kd.R_alloc | apply Kd.R_drewN | apply Kd.R_drew)); exact HO_9.out) (Kd.R_base ho37) hb)
                                  have n2_ := Aside0.mk (Kd.R_below (by (with_reducible repeat (first | apply Kd.R_alloc | apply Kd.R_drewN | apply Kd.R_drew)); exact HO124.out) hb)
                                  have n3_ := Aside0.mk (Kd.R_lower (Kd.R_new' ho37 (Kd.R_lt (by (with_reducible repeat (first | apply Kd.R_alloc | apply Kd.R_drewN | apply Kd.R_drew)); exact HO_9.out))) (below_size (by repeat (first | (with_reducible first | exact HB.out | apply below_alloc | apply pw_below_drewN | apply below_drew1 | refine below_set ?_ GE119.out | refine below_set ?_ GE121.out) | exact HB.out))))
                                  have n4_ := Aside0.mk (blk_below (g := gb119) (o := .cells #[.bool t117, .bool t118] 27 (0, 0)) (by (with_reducible repeat (first | refine blk_drewN ?_ _ | refine blk_drew ?_ | refine blk_alloc ?_ _)); exact BK119.out) hb)
                                  have n5_ := Aside0.mk (blk_below (g := gb121) (o := .cells #[.int .u64 ((rd_T33 l1 x10_1).f0), .string (((rd_T33 l1 x10_1).f1).extract 0 ((ji15) : Int).toNat), .string (((rd_T33 l1 x10_1).f2).extract 0 ((ji18) : Int).toNat)] 33 (0, 0)) (by (with_reducible repeat (first | refine blk_drewN ?_ _ | refine blk_drew ?_ | refine blk_alloc ?_ _)); exact BK121.out) hb)
                                  have n6_ := Aside0.mk (below_step (by repeat (first | (with_reducible first | exact HB.out | apply below_alloc | apply pw_below_drewN | apply below_drew1 | refine below_set ?_ GE119.out | refine below_set ?_ GE121.out) | exact HB.out)) hb)
                                  clear HO_8
                                  clear HO_9
                                  clear HO124
                                  clear BK119
                                  clear BK121
                                  clear HB
                                  have HO_8 := n0_
                                  have HO_9 := n1_
                                  have HO124 := n2_
                                  have HO130 := n3_
                                  have BK119 := n4_
                                  have BK121 := n5_
                                  have HB := n6_
                                  clear n0_ n1_ n2_ n3_ n4_ n5_ n6_
                                  clear hb ho37
                                  obtain ⟨Ao39, co39, eo39⟩ := Kd.R_slice HO124.out
                                  (first | subst eo39 | (injection eo39 with f1_ f2_ f3_; have f4_ := f1_.symm; have f5_ := f3_.symm; clear f1_ f2_ f3_; subst f4_; subst f5_))
                                  refine hK.out _ _ ⟨(blk_cell BK121.out 0).trans rfl, (blk_cell BK121.out 1).trans rfl, (blk_cell BK121.out 2).trans rfl⟩ (fun hHeld => ?_)
                                  clear hK K
                                  refine norm_ (a' := ?_) ?_ ?_
                                  rotate_left
                                  · show Act.put _ (some 65) _ = _
                                    simp only [Act.put, List.setIfInBounds_toArray, List.set_cons_zero, List.set_cons_succ, i64_w, i32_w]
                                    rfl
                                  refine one_ (i := 3) (N := some 62) #[true, true, true, true, true, true, true, false, false, false] rfl rfl (one_of HT_.out (by kernel_rfl)) (by decide) (fun K hK => ?_)
                                  refine Kd.R_append_rows_step k34 (w0 := w) w.heap.size (by rfl) (.tmp 59) (.tmp 61) 29 34 (.agg #[(.int .u64 0), (.string ⟨#[]⟩), (.string ⟨#[]⟩)]) 40 rfl Tryd.underlying29 info34 rfl (by decide) (by omega) (.slice Ao30 x8_1.length co30) x8_1 y122 _ _ _ (fun k_ => some k_ ≠ (.slice Ao39 y122.length co39 : Value).ownBlock) (fun _ => False) rfl rfl ?aO ?aR (fun _ _ h => h) (fun _ h => h.elim) ?aF ?aB ?aS ?aL ?_
                                  (case aR => repeat (first | exact (Kd.R_reads' HO124.out).2.2 | (with_reducible refine Kd.C_alloc ?_ _) | (with_reducible refine Kd.C_drewN ?_ _) | (with_reducible refine Kd.C_drew ?_)))
                                  (case aB => exact (by repeat (first | (with_reducible first | exact HB.out | apply below_alloc | apply pw_below_drewN | apply below_drew1 | refine below_set ?_ GE119.out | refine below_set ?_ GE121.out) | exact HB.out)))
                                  (case aF => exact (fun k_ hk => Kd.fresh' (Kd.R_lt (by (with_reducible repeat (first | apply Kd.R_alloc | apply Kd.R_drewN | apply Kd.R_drew)); exact HO124.out)) k_ hk))
                                  (case aO => exact (by (with_reducible repeat (first | apply Kd.R_alloc | apply Kd.R_drewN | apply Kd.R_drew)); exact Kd.R_mono HO_8.out (fun _ hk => hk.2)))
                                  (case aS => exact (below_size (by repeat (first | (with_reducible first | exact HB.out | apply below_alloc | apply pw_below_drewN | apply below_drew1 | refine below_set ?_ GE119.out | refine below_set ?_ GE121.out) | exact HB.out))))
                                  (case aL => have := LMc21.out; omega)
                                  intro v126 w38 ho hb hg hat
                                  rw [← Ny125.out] at ho
                                  have n0_ := Aside0.mk (Kd.R_over' (by (with_reducible repeat (first | apply Kd.R_alloc | apply Kd.R_drewN | apply Kd.R_drew)); exact HO_9.out) (Kd.R_typed (by (with_reducible repeat (first | apply Kd.R_alloc | apply Kd.R_drewN | apply Kd.R_drew)); exact HO_8.out)) (by decide) hg)
                                  have n1_ := Aside0.mk (blk_grown (g := gb119) (o := .cells #[.bool t117, .bool t118] 27 (0, 0)) (by (with_reducible repeat (first | refine blk_drewN ?_ _ | refine blk_drew ?_ | refine blk_alloc ?_ _)); exact BK119.out) hg (Kd.R_ne HO_8.out BK119.out (by decide)))
                                  have n2_ := Aside0.mk (blk_grown (g := gb121) (o := .cells #[.int .u64 ((rd_T33 l1 x10_1).f0), .string (((rd_T33 l1 x10_1).f1).extract 0 ((ji15) : Int).toNat), .string (((rd_T33 l1 x10_1).f2).extract 0 ((ji18) : Int).toNat)] 33 (0, 0)) (by (with_reducible repeat (first | refine blk_drewN ?_ _ | refine blk_drew ?_ | refine blk_alloc ?_ _)); exact BK121.out) hg (Kd.R_ne HO_8.out BK121.out (by decide)))
                                  have n3_ := Aside0.mk (Kd.R_after (ok := (fun _ => True)) (by (with_reducible repeat (first | apply Kd.R_alloc | apply Kd.R_drewN | apply Kd.R_drew)); exact HO124.out) hg hat)
                                  have n4_ := Aside0.mk (Kd.R_over' (by (with_reducible repeat (first | apply Kd.R_alloc | apply Kd.R_drewN | apply Kd.R_drew)); exact HO130.out) (Kd.R_typed (by (with_reducible repeat (first | apply Kd.R_alloc | apply Kd.R_drewN | apply Kd.R_drew)); exact HO_8.out)) (by decide) hg)
                                  have n5_ := Aside0.mk (hb)
                                  have n6_ := Aside0.mk (ho)
                                  clear HO_9
                                  clear BK119
                                  clear BK121
                                  clear HO124
                                  clear HO130
                                  clear HB
                                  clear HO_8
                                  have HO_9 := n0_
                                  have BK119 := n1_
                                  have BK121 := n2_
                                  have HO124 := n3_
                                  have HO130 := n4_
                                  have HB := n5_
                                  have HO127 := n6_
                                  clear n0_ n1_ n2_ n3_ n4_ n5_ n6_
                                  clear ho hb hg hat
                                  refine hK.out _ _ ⟨(blk_cell BK121.out 0).trans rfl, (blk_cell BK121.out 1).trans rfl, (blk_cell BK121.out 2).trans rfl⟩ (fun hHeld => ?_)
                                  clear hK K
                                  refine norm_ (a' := ?_) ?_ ?_
                                  rotate_left
                                  · show Act.put _ (some 62) _ = _
                                    simp only [Act.put, List.setIfInBounds_toArray, List.set_cons_zero, List.set_cons_succ, i64_w, i32_w]
                                    rfl
                                  exact norm_ (by simp only [putAll, Act.put, List.setIfInBounds_toArray, List.set_cons_zero, List.set_cons_succ]) (hCont (.slice Ao39 y122.length co39, v126, v129) _ ⟨hHeld, (by (with_reducible repeat (first | apply Kd.R_alloc | apply Kd.R_drewN | apply Kd.R_drew)); exact Kd.R_mono HO124.out (fun _ hk => hk.2)), (by (with_reducible repeat (first | apply Kd.R_alloc | apply Kd.R_drewN | apply Kd.R_drew)); exact HO127.out), (by (with_reducible repeat (first | apply Kd.R_alloc | apply Kd.R_drewN | apply Kd.R_drew)); exact Kd.R_mono HO130.out (fun _ hk => hk.2)), (by (with_reducible repeat (first | apply Kd.R_alloc | apply Kd.R_drewN | apply Kd.R_drew)); exact Kd.R_mono HO_9.out (fun _ hk => hk.2)), (by (with_reducible repeat (first | refine blk_drewN ?_ _ | refine blk_drew ?_ | refine blk_alloc ?_ _)); exact BK119.out), (by (with_reducible repeat (first | refine blk_drewN ?_ _ | refine blk_drew ?_ | refine blk_alloc ?_ _)); exact BK121.out), (by repeat (first | (with_reducible first | exact HB.out | apply below_alloc | apply pw_below_drewN | apply below_drew1 | refine below_set ?_ GE119.out | refine below_set ?_ GE121.out) | exact HB.out))⟩)
                              · skip
                                refine Kd.R_lit_step k35 _ 35 ?hg (N := 65) ?hd (xs := ([(⟨(rd_T33 l1 x10_1).f0, ((rd_T33 l1 x10_1).f1).extract 0 ((ji15) : Int).toNat, ((rd_T33 l1 x10_1).f2).extract 0 ((ji18) : Int).toNat⟩ : S35)] : List (S35))) (inner := [.int .u64 ((rd_T33 l1 x10_1).f0), .string (((rd_T33 l1 x10_1).f1).extract 0 ((ji15) : Int).toNat), .string (((rd_T33 l1 x10_1).f2).extract 0 ((ji18) : Int).toNat)]) (ok := fun _ => True) (okp := fun _ => True) ?hr ?hp (fun _ hk => hk) trivial (Below.refl _ _) (Nat.le_refl _) (by simp) ?_; (case hd => rfl); (case hg => rfl); (case hr => first | (go_simp; done) | (go_simp; rfl)); (case hp => exact (Reps.c3 (show Kd.M k35 _ _ _ (⟨(rd_T33 l1 x10_1).f0, ((rd_T33 l1 x10_1).f1).extract 0 ((ji15) : Int).toNat, ((rd_T33 l1 x10_1).f2).extract 0 ((ji18) : Int).toNat⟩ : S35) [.int .u64 ((rd_T33 l1 x10_1).f0), .string (((rd_T33 l1 x10_1).f1).extract 0 ((ji15) : Int).toNat), .string (((rd_T33 l1 x10_1).f2).extract 0 ((ji18) : Int).toNat)] from (k35_mkM _ _ _ (⟨(rd_T33 l1 x10_1).f0, ((rd_T33 l1 x10_1).f1).extract 0 ((ji15) : Int).toNat, ((rd_T33 l1 x10_1).f2).extract 0 ((ji18) : Int).toNat⟩ : S35) )) (Reps.none _ _)))
                                intro v129 w34 ho35 hb hg_ hnew_
                                clear hg_ hnew_
                                (first | rw [← Ny128.out] at ho35 | (simp only [Int.reduceToNat] at ho35; rw [← Ny128.out] at ho35))
                                have n0_ := Aside0.mk (Kd.R_below (by (with_reducible repeat (first | apply Kd.R_alloc | apply Kd.R_drewN | apply Kd.R_drew)); exact HO_8.out) hb)
                                have n1_ := Aside0.mk (Kd.R_elder' (by (with_reducible repeat (first | apply Kd.R_alloc | apply Kd.R_drewN | apply Kd.R_drew)); exact HO_9.out) (Kd.R_base ho35) hb)
                                have n2_ := Aside0.mk (Kd.R_lower (Kd.R_new' ho35 (Kd.R_lt (by (with_reducible repeat (first | apply Kd.R_alloc | apply Kd.R_drewN | apply Kd.R_drew)); exact HO_9.out))) (below_size (by repeat (first | (with_reducible first | exact HB.out | apply below_alloc | apply pw_below_drewN | apply below_drew1 | refine below_set ?_ GE119.out | refine below_set ?_ GE121.out) | exact HB.out))))
                                have n3_ := Aside0.mk (blk_below (g := gb119) (o := .cells #[.bool t117, .bool t118] 27 (0, 0)) (by (with_reducible repeat (first | refine blk_drewN ?_ _ | refine blk_drew ?_ | refine blk_alloc ?_ _)); exact BK119.out) hb)
                                have n4_ := Aside0.mk (blk_below (g := gb121) (o := .cells #[.int .u64 ((rd_T33 l1 x10_1).f0), .string (((rd_T33 l1 x10_1).f1).extract 0 ((ji15) : Int).toNat), .string (((rd_T33 l1 x10_1).f2).extract 0 ((ji18) : Int).toNat)] 33 (0, 0)) (by (with_reducible repeat (first | refine blk_drewN ?_ _ | refine blk_drew ?_ | refine blk_alloc ?_ _)); exact BK121.out) hb)
                                have n5_ := Aside0.mk (below_step (by repeat (first | (with_reducible first | exact HB.out | apply below_alloc | apply pw_below_drewN | apply below_drew1 | refine below_set ?_ GE119.out | refine below_set ?_ GE121.out) | exact HB.out)) hb)
                                clear HO_8
                                clear HO_9
                                clear BK119
                                clear BK121
                                clear HB
                                have HO_8 := n0_
                                have HO_9 := n1_
                                have HO130 := n2_
                                have BK119 := n3_
                                have BK121 := n4_
                                have HB := n5_
                                clear n0_ n1_ n2_ n3_ n4_ n5_
                                clear hb ho35
                                refine hK.out _ _ ⟨(blk_cell BK121.out 0).trans rfl, (blk_cell BK121.out 1).trans rfl, (blk_cell BK121.out 2).trans rfl⟩ (fun hHeld => ?_)
                                clear hK K
                                refine norm_ (a' := ?_) ?_ ?_
                                rotate_left
                                · show Act.put _ (some 65) _ = _
                                  simp only [Act.put, List.setIfInBounds_toArray, List.set_cons_zero, List.set_cons_succ, i64_w, i32_w]
                                  rfl
                                refine one_ (i := 2) (N := some 61) #[true, true, true, false, true, true, true, false, false, false] rfl rfl (one_of HT_.out (by kernel_rfl)) (by decide) (fun K hK => ?_)
                                refine Kd.R_lit_step k34 _ 34 ?hg (N := 61) ?hd (xs := ([(⟨(rd_T33 l1 x10_1).f0, ((rd_T33 l1 x10_1).f1).extract 0 ((ji15) : Int).toNat, ((rd_T33 l1 x10_1).f2).extract 0 ((ji18) : Int).toNat⟩ : S34)] : List (S34))) (inner := [.int .u64 ((rd_T33 l1 x10_1).f0), .string (((rd_T33 l1 x10_1).f1).extract 0 ((ji15) : Int).toNat), .string (((rd_T33 l1 x10_1).f2).extract 0 ((ji18) : Int).toNat)]) (ok := fun _ => True) (okp := fun _ => True) ?hr ?hp (fun _ hk => hk) trivial (Below.refl _ _) (Nat.le_refl _) (by simp) ?_; (case hd => rfl); (case hg => rfl); (case hr => first | (go_simp; done) | (go_simp; rfl)); (case hp => exact (Reps.c3 (show Kd.M k34 _ _ _ (⟨(rd_T33 l1 x10_1).f0, ((rd_T33 l1 x10_1).f1).extract 0 ((ji15) : Int).toNat, ((rd_T33 l1 x10_1).f2).extract 0 ((ji18) : Int).toNat⟩ : S34) [.int .u64 ((rd_T33 l1 x10_1).f0), .string (((rd_T33 l1 x10_1).f1).extract 0 ((ji15) : Int).toNat), .string (((rd_T33 l1 x10_1).f2).extract 0 ((ji18) : Int).toNat)] from (k34_mkM _ _ _ (⟨(rd_T33 l1 x10_1).f0, ((rd_T33 l1 x10_1).f1).extract 0 ((ji15) : Int).toNat, ((rd_T33 l1 x10_1).f2).extract 0 ((ji18) : Int).toNat⟩ : S34) )) (Reps.none _ _)))
                                intro v123 w36 ho37 hb hg_ hnew_
                                clear hg_ hnew_
                                (first | rw [← Ny122.out] at ho37 | (simp only [Int.reduceToNat] at ho37; rw [← Ny122.out] at ho37))
                                have n0_ := Aside0.mk (Kd.R_elder' (by (with_reducible repeat (first | apply Kd.R_alloc | apply Kd.R_drewN | apply Kd.R_drew)); exact HO_8.out) (Kd.R_base ho37) hb)
                                have n1_ := Aside0.mk (Kd.R_below (by (with_reducible repeat (first | apply Kd.R_alloc | apply Kd.R_drewN | apply Kd.R_drew)); exact HO_9.out) hb)
                                have n2_ := Aside0.mk (Kd.R_below (by (with_reducible repeat (first | apply Kd.R_alloc | apply Kd.R_drewN | apply Kd.R_drew)); exact HO130.out) hb)
                                have n3_ := Aside0.mk (Kd.R_lower (Kd.R_new' ho37 (Kd.R_lt (by (with_reducible repeat (first | apply Kd.R_alloc | apply Kd.R_drewN | apply Kd.R_drew)); exact HO_8.out))) (below_size (by repeat (first | (with_reducible first | exact HB.out | apply below_alloc | apply pw_below_drewN | apply below_drew1 | refine below_set ?_ GE119.out | refine below_set ?_ GE121.out) | exact HB.out))))
                                have n4_ := Aside0.mk (blk_below (g := gb119) (o := .cells #[.bool t117, .bool t118] 27 (0, 0)) (by (with_reducible repeat (first | refine blk_drewN ?_ _ | refine blk_drew ?_ | refine blk_alloc ?_ _)); exact BK119.out) hb)
                                have n5_ := Aside0.mk (blk_below (g := gb121) (o := .cells #[.int .u64 ((rd_T33 l1 x10_1).f0), .string (((rd_T33 l1 x10_1).f1).extract 0 ((ji15) : Int).toNat), .string (((rd_T33 l1 x10_1).f2).extract 0 ((ji18) : Int).toNat)] 33 (0, 0)) (by (with_reducible repeat (first | refine blk_drewN ?_ _ | refine blk_drew ?_ | refine blk_alloc ?_ _)); exact BK121.out) hb)
                                have n6_ := Aside0.mk (below_step (by repeat (first | (with_reducible first | exact HB.out | apply below_alloc | apply pw_below_drewN | apply below_drew1 | refine below_set ?_ GE119.out | refine below_set ?_ GE121.out) | exact HB.out)) hb)
                                clear HO_8
                                clear HO_9
                                clear HO130
                                clear BK119
                                clear BK121
                                clear HB
                                have HO_8 := n0_
                                have HO_9 := n1_
                                have HO130 := n2_
                                have HO124 := n3_
                                have BK119 := n4_
                                have BK121 := n5_
                                have HB := n6_
                                clear n0_ n1_ n2_ n3_ n4_ n5_ n6_
                                clear hb ho37
                                obtain ⟨Ao39, co39, eo39⟩ := Kd.R_slice HO124.out
                                (first | subst eo39 | (injection eo39 with f1_ f2_ f3_; have f4_ := f1_.symm; have f5_ := f3_.symm; clear f1_ f2_ f3_; subst f4_; subst f5_))
                                refine hK.out _ _ ⟨(blk_cell BK121.out 0).trans rfl, (blk_cell BK121.out 1).trans rfl, (blk_cell BK121.out 2).trans rfl⟩ (fun hHeld => ?_)
                                clear hK K
                                refine norm_ (a' := ?_) ?_ ?_
                                rotate_left
                                · show Act.put _ (some 61) _ = _
                                  simp only [Act.put, List.setIfInBounds_toArray, List.set_cons_zero, List.set_cons_succ, i64_w, i32_w]
                                  rfl
                                refine one_ (i := 3) (N := some 62) #[true, true, true, true, true, true, true, false, false, false] rfl rfl (one_of HT_.out (by kernel_rfl)) (by decide) (fun K hK => ?_)
                                refine Kd.R_append_rows_step k34 (w0 := w) w.heap.size (by rfl) (.tmp 59) (.tmp 61) 29 34 (.agg #[(.int .u64 0), (.string ⟨#[]⟩), (.string ⟨#[]⟩)]) 40 rfl Tryd.underlying29 info34 rfl (by decide) (by omega) (.slice Ao30 x8_1.length co30) x8_1 y122 _ _ _ (fun k_ => some k_ ≠ (.slice Ao39 y122.length co39 : Value).ownBlock) (fun _ => False) rfl rfl ?aO ?aR (fun _ _ h => h) (fun _ h => h.elim) ?aF ?aB ?aS ?aL ?_
                                (case aR => repeat (first | exact (Kd.R_reads' HO124.out).2.2 | (with_reducible refine Kd.C_alloc ?_ _) | (with_reducible refine Kd.C_drewN ?_ _) | (with_reducible refine Kd.C_drew ?_)))
                                (case aB => exact (by repeat (first | (with_reducible first | exact HB.out | apply below_alloc | apply pw_below_drewN | apply below_drew1 | refine below_set ?_ GE119.out | refine below_set ?_ GE121.out) | exact HB.out)))
                                (case aF => exact (fun k_ hk => Kd.fresh' (Kd.R_lt (by (with_reducible repeat (first | apply Kd.R_alloc | apply Kd.R_drewN | apply Kd.R_drew)); exact HO124.out)) k_ hk))
                                (case aO => exact (by (with_reducible repeat (first | apply Kd.R_alloc | apply Kd.R_drewN | apply Kd.R_drew)); exact Kd.R_mono HO_8.out (fun _ hk => hk.2)))
                                (case aS => exact (below_size (by repeat (first | (with_reducible first | exact HB.out | apply below_alloc | apply pw_below_drewN | apply below_drew1 | refine below_set ?_ GE119.out | refine below_set ?_ GE121.out) | exact HB.out))))
                                (case aL => have := LMc21.out; omega)
                                intro v126 w38 ho hb hg hat
                                rw [← Ny125.out] at ho
                                have n0_ := Aside0.mk (Kd.R_over' (by (with_reducible repeat (first | apply Kd.R_alloc | apply Kd.R_drewN | apply Kd.R_drew)); exact HO_9.out) (Kd.R_typed (by (with_reducible repeat (first | apply Kd.R_alloc | apply Kd.R_drewN | apply Kd.R_drew)); exact HO_8.out)) (by decide) hg)
                                have n1_ := Aside0.mk (blk_grown (g := gb119) (o := .cells #[.bool t117, .bool t118] 27 (0, 0)) (by (with_reducible repeat (first | refine blk_drewN ?_ _ | refine blk_drew ?_ | refine blk_alloc ?_ _)); exact BK119.out) hg (Kd.R_ne HO_8.out BK119.out (by decide)))
                                have n2_ := Aside0.mk (blk_grown (g := gb121) (o := .cells #[.int .u64 ((rd_T33 l1 x10_1).f0), .string (((rd_T33 l1 x10_1).f1).extract 0 ((ji15) : Int).toNat), .string (((rd_T33 l1 x10_1).f2).extract 0 ((ji18) : Int).toNat)] 33 (0, 0)) (by (with_reducible repeat (first | refine blk_drewN ?_ _ | refine blk_drew ?_ | refine blk_alloc ?_ _)); exact BK121.out) hg (Kd.R_ne HO_8.out BK121.out (by decide)))
                                have n3_ := Aside0.mk (Kd.R_over' (by (with_reducible repeat (first | apply Kd.R_alloc | apply Kd.R_drewN | apply Kd.R_drew)); exact HO130.out) (Kd.R_typed (by (with_reducible repeat (first | apply Kd.R_alloc | apply Kd.R_drewN | apply Kd.R_drew)); exact HO_8.out)) (by decide) hg)
                                have n4_ := Aside0.mk (Kd.R_after (ok := (fun _ => True)) (by (with_reducible repeat (first | apply Kd.R_alloc | apply Kd.R_drewN | apply Kd.R_drew)); exact HO124.out) hg hat)
                                have n5_ := Aside0.mk (hb)
                                have n6_ := Aside0.mk (ho)
                                clear HO_9
                                clear BK119
                                clear BK121
                                clear HO130
                                clear HO124
                                clear HB
                                clear HO_8
                                have HO_9 := n0_
                                have BK119 := n1_
                                have BK121 := n2_
                                have HO130 := n3_
                                have HO124 := n4_
                                have HB := n5_
                                have HO127 := n6_
                                clear n0_ n1_ n2_ n3_ n4_ n5_ n6_
                                clear ho hb hg hat
                                refine hK.out _ _ ⟨(blk_cell BK121.out 0).trans rfl, (blk_cell BK121.out 1).trans rfl, (blk_cell BK121.out 2).trans rfl⟩ (fun hHeld => ?_)
                                clear hK K
                                refine norm_ (a' := ?_) ?_ ?_
                                rotate_left
                                · show Act.put _ (some 62) _ = _
                                  simp only [Act.put, List.setIfInBounds_toArray, List.set_cons_zero, List.set_cons_succ, i64_w, i32_w]
                                  rfl
                                exact norm_ (by simp only [putAll, Act.put, List.setIfInBounds_toArray, List.set_cons_zero, List.set_cons_succ]) (hCont (.slice Ao39 y122.length co39, v126, v129) _ ⟨hHeld, (by (with_reducible repeat (first | apply Kd.R_alloc | apply Kd.R_drewN | apply Kd.R_drew)); exact Kd.R_mono HO124.out (fun _ hk => hk.2)), (by (with_reducible repeat (first | apply Kd.R_alloc | apply Kd.R_drewN | apply Kd.R_drew)); exact HO127.out), (by (with_reducible repeat (first | apply Kd.R_alloc | apply Kd.R_drewN | apply Kd.R_drew)); exact Kd.R_mono HO130.out (fun _ hk => hk.2)), (by (with_reducible repeat (first | apply Kd.R_alloc | apply Kd.R_drewN | apply Kd.R_drew)); exact Kd.R_mono HO_9.out (fun _ hk => hk.2)), (by (with_reducible repeat (first | refine blk_drewN ?_ _ | refine blk_drew ?_ | refine blk_alloc ?_ _)); exact BK119.out), (by (with_reducible repeat (first | refine blk_drewN ?_ _ | refine blk_drew ?_ | refine blk_alloc ?_ _)); exact BK121.out), (by repeat (first | (with_reducible first | exact HB.out | apply below_alloc | apply pw_below_drewN | apply below_drew1 | refine below_set ?_ GE119.out | refine below_set ?_ GE121.out) | exact HB.out))⟩)
                            rintro ⟨v123, v126, v129⟩ w40 ⟨hS_, h0_, h1_, h2_, h3_, h4_, h5_, h6_⟩
                            have n0_ : Aside0 (Kd.R k34 34 w40 w.heap.size (fun k_ => some k_ ≠ (v126 : Value).ownBlock) v123 y122) := ⟨h0_⟩
                            have n1_ : Aside0 (Kd.R k34 34 w40 w.heap.size (fun k_ => some k_ ≠ (v123 : Value).ownBlock) v126 y125) := ⟨h1_⟩
                            have n2_ : Aside0 (Kd.R k35 35 w40 w.heap.size (fun k_ => some k_ ≠ (.slice Ao31 x9_1.length co31 : Value).ownBlock) v129 y128) := ⟨h2_⟩
                            have n3_ : Aside0 (Kd.R k35 35 w40 w.heap.size (fun k_ => some k_ ≠ (v129 : Value).ownBlock) (.slice Ao31 x9_1.length co31) x9_1) := ⟨h3_⟩
                            have n4_ : Aside0 (w40.heap[gb119]? = some (.cells #[.bool t117, .bool t118] 27 (0, 0))) := ⟨h4_⟩
                            have n5_ : Aside0 (w40.heap[gb121]? = some (.cells #[.int .u64 ((rd_T33 l1 x10_1).f0), .string (((rd_T33 l1 x10_1).f1).extract 0 ((ji15) : Int).toNat), .string (((rd_T33 l1 x10_1).f2).extract 0 ((ji18) : Int).toNat)] 33 (0, 0))) := ⟨h5_⟩
                            have n6_ : Aside0 (Below w.heap.size w w40) := ⟨h6_⟩
                            clear HO_8
                            clear HO_9
                            clear BK119
                            clear BK121
                            clear HB
                            clear h0_ h1_ h2_ h3_ h4_ h5_ h6_
                            have HO124 := n0_
                            have HO127 := n1_
                            have HO130 := n2_
                            have HO_9 := n3_
                            have BK119 := n4_
                            have BK121 := n5_
                            have HB := n6_
                            clear n0_ n1_ n2_ n3_ n4_ n5_ n6_
                            have hHeld : w40.cell? ⟨gb121, 0, none⟩ = some (.int .u64 ((rd_T33 l1 x10_1).f0)) ∧ w40.cell? ⟨gb121, 1, none⟩ = some (.string (((rd_T33 l1 x10_1).f1).extract 0 ((ji15) : Int).toNat)) ∧ w40.cell? ⟨gb121, 2, none⟩ = some (.string (((rd_T33 l1 x10_1).f2).extract 0 ((ji18) : Int).toNat)) := hS_
                            obtain ⟨Ao42, co42, eo42⟩ := Kd.R_slice HO130.out
                            (first | subst eo42 | (injection eo42 with f1_ f2_ f3_; have f4_ := f1_.symm; have f5_ := f3_.symm; clear f1_ f2_ f3_; subst f4_; subst f5_))
                            refine norm_ (a' := ?_) ?_ ?_
                            rotate_left
                            · simp only [putAll, Act.put, List.setIfInBounds_toArray, List.set_cons_zero, List.set_cons_succ]
                              rfl
                            refine one_ (i := 7) (N := some 66) #[true, true, true, true, true, true, true, true, false, false] rfl rfl (one_of HT_.out (by kernel_rfl)) (by decide) (fun K hK => ?_)
                            refine Kd.R_append_rows_step k35 (w0 := w) w.heap.size (by rfl) (.tmp 63) (.tmp 65) 30 35 (.agg #[(.int .u64 0), (.string ⟨#[]⟩), (.string ⟨#[]⟩)]) 40 rfl Tryd.underlying30 info35 rfl (by decide) (by omega) (.slice Ao31 x9_1.length co31) x9_1 y128 _ _ _ (fun k_ => some k_ ≠ (.slice Ao42 y128.length co42 : Value).ownBlock) (fun _ => False) rfl rfl ?aO ?aR (fun _ _ h => h) (fun _ h => h.elim) ?aF ?aB ?aS ?aL ?_
                            (case aR => repeat (first | exact (Kd.R_reads' HO130.out).2.2 | (with_reducible refine Kd.C_alloc ?_ _) | (with_reducible refine Kd.C_drewN ?_ _) | (with_reducible refine Kd.C_drew ?_)))
                            (case aB => exact (by repeat (first | (with_reducible first | exact HB.out | apply below_alloc | apply pw_below_drewN | apply below_drew1 | refine below_set ?_ GE119.out | refine below_set ?_ GE121.out) | exact HB.out)))
                            (case aF => exact (fun k_ hk => Kd.fresh' (Kd.R_lt (by (with_reducible repeat (first | apply Kd.R_alloc | apply Kd.R_drewN | apply Kd.R_drew)); exact HO130.out)) k_ hk))
                            (case aO => exact (by (with_reducible repeat (first | apply Kd.R_alloc | apply Kd.R_drewN | apply Kd.R_drew)); exact HO_9.out))
                            (case aS => exact (below_size (by repeat (first | (with_reducible first | exact HB.out | apply below_alloc | apply pw_below_drewN | apply below_drew1 | refine below_set ?_ GE119.out | refine below_set ?_ GE121.out) | exact HB.out))))
                            (case aL => have := LMc22.out; omega)
                            intro v132 w41 ho hb hg hat
                            rw [← Ny131.out] at ho
                            have n0_ := Aside0.mk (blk_grown (g := gb119) (o := .cells #[.bool t117, .bool t118] 27 (0, 0)) (by (with_reducible repeat (first | refine blk_drewN ?_ _ | refine blk_drew ?_ | refine blk_alloc ?_ _)); exact BK119.out) hg (Kd.R_ne HO_9.out BK119.out (by decide)))
                            have n1_ := Aside0.mk (blk_grown (g := gb121) (o := .cells #[.int .u64 ((rd_T33 l1 x10_1).f0), .string (((rd_T33 l1 x10_1).f1).extract 0 ((ji15) : Int).toNat), .string (((rd_T33 l1 x10_1).f2).extract 0 ((ji18) : Int).toNat)] 33 (0, 0)) (by (with_reducible repeat (first | refine blk_drewN ?_ _ | refine blk_drew ?_ | refine blk_alloc ?_ _)); exact BK121.out) hg (Kd.R_ne HO_9.out BK121.out (by decide)))
                            have n2_ := Aside0.mk (Kd.R_over' (by (with_reducible repeat (first | apply Kd.R_alloc | apply Kd.R_drewN | apply Kd.R_drew)); exact HO124.out) (Kd.R_typed (by (with_reducible repeat (first | apply Kd.R_alloc | apply Kd.R_drewN | apply Kd.R_drew)); exact HO_9.out)) (by decide) hg)
                            have n3_ := Aside0.mk (Kd.R_over' (by (with_reducible repeat (first | apply Kd.R_alloc | apply Kd.R_drewN | apply Kd.R_drew)); exact HO127.out) (Kd.R_typed (by (with_reducible repeat (first | apply Kd.R_alloc | apply Kd.R_drewN | apply Kd.R_drew)); exact HO_9.out)) (by decide) hg)
                            have n4_ := Aside0.mk (Kd.R_after (ok := (fun _ => True)) (by (with_reducible repeat (first | apply Kd.R_alloc | apply Kd.R_drewN | apply Kd.R_drew)); exact Kd.R_mono HO130.out (fun _ hk => ⟨trivial, hk⟩)) hg hat)
                            have n5_ := Aside0.mk (hb)
                            have n6_ := Aside0.mk (ho)
                            clear BK119
                            clear BK121
                            clear HO124
                            clear HO127
                            clear HO130
                            clear HB
                            clear HO_9
                            have BK119 := n0_
                            have BK121 := n1_
                            have HO124 := n2_
                            have HO127 := n3_
                            have HO130 := n4_
                            have HB := n5_
                            have HO133 := n6_
                            clear n0_ n1_ n2_ n3_ n4_ n5_ n6_
                            clear ho hb hg hat
                            refine hK.out _ _ ⟨(blk_cell BK121.out 0).trans rfl, (blk_cell BK121.out 1).trans rfl, (blk_cell BK121.out 2).trans rfl⟩ (fun hHeld => ?_)
                            clear hK K
                            refine norm_ (a' := ?_) ?_ ?_
                            rotate_left
                            · show Act.put _ (some 66) _ = _
                              simp only [Act.put, List.setIfInBounds_toArray, List.set_cons_zero, List.set_cons_succ, i64_w, i32_w]
                              rfl
                            refine pure_ (i := 8) (N := some 8) (v := ?_) (a' := ?_) #[true, true, true, true, true, true, true, true, true, false] rfl rfl (any_of HT_.out (by kernel_rfl)) (fun _ _ _ h => h) (Or.inl ⟨by rfl, ?_⟩) ?_ ?_
                            rotate_left
                            · intro w'
                              go_simp
                              first | with_reducible rfl | (rw [if_neg (by (try simp only [ByteArray.size_extract, ByteArray.size_append] at *); omega)]; first | done | with_reducible rfl)
                            rotate_left
                            · simp only [Act.put, List.setIfInBounds_toArray, List.set_cons_zero, List.set_cons_succ, i64_w, i32_w]
                              rfl
                            refine pure_ (i := 9) (N := some 9) (v := ?_) (a' := ?_) #[true, true, true, true, true, true, true, true, true, true] rfl rfl (any_of HT_.out (by kernel_rfl)) (fun _ _ _ h => h) (Or.inl ⟨by rfl, ?_⟩) ?_ ?_
                            rotate_left
                            · intro w'
                              go_simp
                              first | with_reducible rfl | (rw [if_neg (by (try simp only [ByteArray.size_extract, ByteArray.size_append] at *); omega)]; first | done | with_reducible rfl)
                            rotate_left
                            · simp only [Act.put, List.setIfInBounds_toArray, List.set_cons_zero, List.set_cons_succ, i64_w, i32_w]
                              rfl
                            refine done_ (done_of HT_.out (by kernel_rfl)) ?_
                            try go_wp2
                            go_roundg k1
                            case measure => have := HK1.out; omega
                            case rel => exact ⟨(y125), (y131), (wrap64 (x10_1 + 1)), (by first | rfl | (simp; done) | (simp [*]; done)), H', ⟨by have := HK1.out; omega⟩, ⟨by (with_reducible repeat (first | apply Kd.R_alloc | apply Kd.R_drewN | apply Kd.R_drew)); exact Kd.R_mono HO127.out (fun _ hk => trivial)⟩, ⟨by (with_reducible repeat (first | apply Kd.R_alloc | apply Kd.R_drewN | apply Kd.R_drew)); exact Kd.R_mono HO133.out (fun _ hk => trivial)⟩, ⟨by (with_reducible repeat (first | refine blk_drewN ?_ _ | refine blk_drew ?_ | refine blk_alloc ?_ _)); exact BK119.out⟩, ⟨by repeat (first | (with_reducible first | exact HB.out | apply below_alloc | apply pw_below_drewN | apply below_drew1 | refine below_set ?_ GE119.out | refine below_set ?_ GE121.out) | exact HB.out)⟩⟩
                          · rw [if_neg c22] at H
                            exact absurd H (by simp)
                        · rw [if_neg c21] at H
                          exact absurd H (by simp)
                      · rw [if_neg c20] at H
                        exact absurd H (by simp)
                    · rw [if_neg c19] at H
                      exact absurd H (by simp)
                  · rw [if_neg c17] at H
                    exact absurd H (by simp)
                · rw [if_neg c16] at H
                  exact absurd H (by simp)
              · rw [if_neg c14] at H
                exact absurd H (by simp)
            · rw [if_neg c13] at H
              have c13b0 : decide (x10_1 < 8) = false := decide_eq_false c13
              clear c13
              have H' := Aside0.mk H
              clear H
              go_wp2
              go_meet
              case rel => exact ⟨_, (x8_1), (x9_1), H', ⟨by have := HK1.out; first | omega | exact Nat.le_refl _⟩, ⟨by (with_reducible repeat (first | apply Kd.R_alloc | apply Kd.R_drewN | apply Kd.R_drew)); exact HO_8.out⟩, ⟨by (with_reducible repeat (first | apply Kd.R_alloc | apply Kd.R_drewN | apply Kd.R_drew)); exact HO_9.out⟩, ⟨by (with_reducible repeat (first | refine blk_drewN ?_ _ | refine blk_drew ?_ | refine blk_alloc ?_ _)); exact BK119.out⟩, ⟨by repeat (first | (with_reducible first | exact HB.out | apply below_alloc | apply pw_below_drewN | apply below_drew1 | refine below_set ?_ GE119.out) | exact HB.out)⟩⟩
          · rw [if_neg c12] at H
            have c12b0 : decide (x10_1 < (l1.length : Int)) = false := decide_eq_false c12
            clear c12
            (first | rw [c12b0] | (simp only [i64_w, i32_w]; rw [c12b0]) | skip)
            have H' := Aside0.mk H
            clear H
            go_wp2
            go_meet
            case rel => exact ⟨_, (x8_1), (x9_1), H', ⟨by have := HK1.out; first | omega | exact Nat.le_refl _⟩, ⟨by (with_reducible repeat (first | apply Kd.R_alloc | apply Kd.R_drewN | apply Kd.R_drew)); exact HO_8.out⟩, ⟨by (with_reducible repeat (first | apply Kd.R_alloc | apply Kd.R_drewN | apply Kd.R_drew)); exact HO_9.out⟩, ⟨by (with_reducible repeat (first | refine blk_drewN ?_ _ | refine blk_drew ?_ | refine blk_alloc ?_ _)); exact BK119.out⟩, ⟨by repeat (first | (with_reducible first | exact HB.out | apply below_alloc | apply pw_below_drewN | apply below_drew1 | refine below_set ?_ GE119.out) | exact HB.out)⟩⟩
    case rest =>
      clear HC7
      try clear c1
      try clear c2
      try clear p2
      try clear c3
      try clear p6
      try clear c12
      try clear c12b0
      try clear c13
      try clear c13b0
      try clear c14
      try clear c16
      try clear c17
      try clear c19
      try clear c20
      try clear c21
      try clear c22
      obtain ⟨kq, x8_6, x9_6, HA, HJ6, HO_8, HO_9, BK119, HB⟩ := hcut
      cases kq with
      | zero => exact absurd HA.out (by simp [graverlaw10_DynrecNotes.j1])
      | succ kj6 =>
        have H := HA.out
        clear HA
        simp only [graverlaw10_DynrecNotes.j1] at H
        replace H := Option.bind_eq_some_iff.mp H
        obtain ⟨⟨t134, t135⟩, A430, H⟩ := H
        replace H : ((graverref10_PutNotes.f kj6 t117 x9_6).bind fun bt136 => (if t134.toList = bt136.1.toList then (graverlaw10_DynrecNotes.j2 kj6 a2 x8_6 t134 t135 (t135 != bt136.2) t117 t118) else (graverlaw10_DynrecNotes.j2 kj6 a2 x8_6 t134 t135 true t117 t118))) = some r := H
        have A43 := Aside0.mk A430
        clear A430
        replace H := Option.bind_eq_some_iff.mp H
        obtain ⟨⟨t136, t137⟩, A440, H⟩ := H
        replace H : (if t134.toList = t136.toList then (graverlaw10_DynrecNotes.j2 kj6 a2 x8_6 t134 t135 (t135 != t137) t117 t118) else (graverlaw10_DynrecNotes.j2 kj6 a2 x8_6 t134 t135 true t117 t118)) = some r := H
        have A44 := Aside0.mk A440
        clear A440
        have HC45 := Aside0.mk H
        clear H
        have hcz46_0 : wc.cell? ⟨gb119, 0, none⟩ = some (.bool t117) := (blk_cell BK119.out 0).trans rfl
        have hcz46_1 : wc.cell? ⟨gb119, 1, none⟩ = some (.bool t118) := (blk_cell BK119.out 1).trans rfl
        have hfz46_0 := blk_frozen BK119.out 0
        have hfz46_1 := blk_frozen BK119.out 1
        obtain ⟨Ao47, co47, eo47⟩ := Kd.R_slice HO_8.out
        subst eo47
        go_upto_region 14 with (first | ((with_reducible refine gate_callee (f := 9) rfl ?_); refine goesL_ (some 70) rfl rfl Tryd.func9 (by kernel_rfl) rfl #[.agg #[.bool t117, .bool t118], .slice Ao47 x8_6.length co47] rfl (by (try simp only [List.map_toArray, List.map_cons, List.map_nil]); first | done | rfl | (simp only [List.length_drop, List.length_take]; rfl)) ?_; (with_reducible refine (dynrec_PutNotes.calls t117 t118 _ _ x8_6 t134 t135 _ ?side1 ?side2 A43.out).mono ?_); (case side1 => repeat (first | exact (Kd.R_reads' HO_8.out).2.2 | (with_reducible refine Kd.C_alloc ?_ _) | (with_reducible refine Kd.C_drewN ?_ _) | (with_reducible refine Kd.C_drew ?_))); (case side2 => exact (Kd.R_reads' HO_8.out).2.1); rintro e w48 ⟨rfl, hb⟩; refine ⟨_, rfl, ?_⟩; have n0_ := Aside0.mk (Kd.R_below (by (with_reducible repeat (first | apply Kd.R_alloc | apply Kd.R_drewN | apply Kd.R_drew)); exact HO_8.out) hb); have n1_ := Aside0.mk (Kd.R_below (by (with_reducible repeat (first | apply Kd.R_alloc | apply Kd.R_drewN | apply Kd.R_drew)); exact HO_9.out) hb); have n2_ := Aside0.mk (blk_below (g := gb119) (o := .cells #[.bool t117, .bool t118] 27 (0, 0)) (by (with_reducible repeat (first | refine blk_drewN ?_ _ | refine blk_drew ?_ | refine blk_alloc ?_ _)); exact BK119.out) hb); have n3_ := Aside0.mk (below_step (by repeat (first | (with_reducible first | exact HB.out | apply below_alloc | apply pw_below_drewN | apply below_drew1 | refine below_set ?_ GE119.out) | exact HB.out)) hb); clear HO_8; clear HO_9; clear BK119; clear HB; have HO_8 := n0_; have HO_9 := n1_; have BK119 := n2_; have HB := n3_; clear n0_ n1_ n2_ n3_; (try clear hb); (try clear hb2); (try clear hk); (try clear hi); have hcz49_0 : w48.cell? ⟨gb119, 0, none⟩ = some (.bool t117) := (blk_cell BK119.out 0).trans rfl; have hcz49_1 : w48.cell? ⟨gb119, 1, none⟩ = some (.bool t118) := (blk_cell BK119.out 1).trans rfl; have hfz49_0 := blk_frozen BK119.out 0; have hfz49_1 := blk_frozen BK119.out 1; obtain ⟨Ao50, co50, eo50⟩ := Kd.R_slice HO_9.out; subst eo50) | ((with_reducible refine gate_callee (f := 10) rfl ?_); refine goesL_ (some 78) rfl rfl Tryd.func10 (by kernel_rfl) rfl #[.bool t117, .slice Ao50 x9_6.length co50] rfl (by (try simp only [List.map_toArray, List.map_cons, List.map_nil]); first | done | rfl | (simp only [List.length_drop, List.length_take]; rfl)) ?_; (with_reducible refine (graverref10_PutNotes.calls kj6 t117 _ _ x9_6 t136 t137 _ ?side1 ?side2 A44.out).mono ?_); (case side1 => repeat (first | exact (Kd.R_reads' HO_9.out).2.2 | (with_reducible refine Kd.C_alloc ?_ _) | (with_reducible refine Kd.C_drewN ?_ _) | (with_reducible refine Kd.C_drew ?_))); (case side2 => exact (Kd.R_reads' HO_9.out).2.1); rintro e w51 ⟨rfl, hb⟩; refine ⟨_, rfl, ?_⟩; have n0_ := Aside0.mk (Kd.R_below (by (with_reducible repeat (first | apply Kd.R_alloc | apply Kd.R_drewN | apply Kd.R_drew)); exact HO_8.out) hb); have n1_ := Aside0.mk (Kd.R_below (by (with_reducible repeat (first | apply Kd.R_alloc | apply Kd.R_drewN | apply Kd.R_drew)); exact HO_9.out) hb); have n2_ := Aside0.mk (blk_below (g := gb119) (o := .cells #[.bool t117, .bool t118] 27 (0, 0)) (by (with_reducible repeat (first | refine blk_drewN ?_ _ | refine blk_drew ?_ | refine blk_alloc ?_ _)); exact BK119.out) hb); have n3_ := Aside0.mk (below_step (by repeat (first | (with_reducible first | exact HB.out | apply below_alloc | apply pw_below_drewN | apply below_drew1 | refine below_set ?_ GE119.out) | exact HB.out)) hb); clear HO_8; clear HO_9; clear BK119; clear HB; have HO_8 := n0_; have HO_9 := n1_; have BK119 := n2_; have HB := n3_; clear n0_ n1_ n2_ n3_; (try clear hb); (try clear hb2); (try clear hk); (try clear hi)))
        (try simp only [Act.put, List.setIfInBounds_toArray, List.set_cons_zero, List.set_cons_succ])
        go_cut [88] (fun v88 wc => ∃ (kq : Nat) (x88_44 : Bool), v88 = .bool x88_44 ∧ Aside0 (graverlaw10_DynrecNotes.j2 kq a2 x8_6 t134 t135 x88_44 t117 t118 = some r) ∧ Aside0 (kq ≤ kj6) ∧ Aside0 (Kd.R k34 34 wc w.heap.size (fun _ => True) (.slice Ao47 x8_6.length co47) x8_6) ∧ Aside0 (wc.heap[gb119]? = some (.cells #[.bool t117, .bool t118] 27 (0, 0))) ∧ Aside0 (Below w.heap.size w wc))
        case first =>
          have H := HC45.out
          clear HC45
          by_cases c52 : t134.toList = t136.toList
          · rw [if_pos c52] at H
            have c52b0 : (t134.toList == t136.toList) = true := beq_iff_eq.mpr c52
            have c52b1 : (t134.toList != t136.toList) = false := bne_eq_false_iff_eq.mpr c52
            clear c52
            (first | rw [c52b0] | (simp only [i64_w, i32_w]; rw [c52b0]) | skip)
            have H' := Aside0.mk H
            clear H
            go_wp2
            go_meet
            case rel => exact ⟨_, ((t135 != t137)), (by first | rfl | (simp; done) | (simp [*]; done)), H', ⟨by have := HJ6.out; first | omega | exact Nat.le_refl _⟩, ⟨by (with_reducible repeat (first | apply Kd.R_alloc | apply Kd.R_drewN | apply Kd.R_drew)); exact HO_8.out⟩, ⟨by (with_reducible repeat (first | refine blk_drewN ?_ _ | refine blk_drew ?_ | refine blk_alloc ?_ _)); exact BK119.out⟩, ⟨by repeat (first | (with_reducible first | exact HB.out | apply below_alloc | apply pw_below_drewN | apply below_drew1 | refine below_set ?_ GE119.out) | exact HB.out)⟩⟩
          · rw [if_neg c52] at H
            have c52b0 : (t134.toList == t136.toList) = false := beq_eq_false_iff_ne.mpr c52
            have c52b1 : (t134.toList != t136.toList) = true := bne_iff_ne.mpr c52
            (first | rw [c52b0] | (simp only [i64_w, i32_w]; rw [c52b0]) | skip)
            have H' := Aside0.mk H
            clear H
            go_wp2
            go_meet
            case rel => exact ⟨_, (true), (by first | rfl | (simp; done) | (simp [*]; done)), H', ⟨by have := HJ6.out; first | omega | exact Nat.le_refl _⟩, ⟨by (with_reducible repeat (first | apply Kd.R_alloc | apply Kd.R_drewN | apply Kd.R_drew)); exact HO_8.out⟩, ⟨by (with_reducible repeat (first | refine blk_drewN ?_ _ | refine blk_drew ?_ | refine blk_alloc ?_ _)); exact BK119.out⟩, ⟨by repeat (first | (with_reducible first | exact HB.out | apply below_alloc | apply pw_below_drewN | apply below_drew1 | refine below_set ?_ GE119.out) | exact HB.out)⟩⟩
        case rest =>
          clear HC45
          try clear c1
          try clear c2
          try clear p2
          try clear c3
          try clear c5
          try clear p6
          try clear c9
          try clear c10
          try clear c12
          try clear c12b0
          try clear c13
          try clear c13b0
          try clear c14
          try clear c16
          try clear c17
          try clear c19
          try clear c20
          try clear c21
          try clear c22
          try clear c52
          try clear c52b0
          try clear c52b1
          try clear hcz46_0
          try clear hcz46_1
          try clear hcz49_0
          try clear hcz49_1
          try clear hfz46_0
          try clear hfz46_1
          try clear hfz49_0
          try clear hfz49_1
          try clear p2
          try clear p6
          obtain ⟨kq, x88_44, rfl, HA, HJ44, HO_8, BK119, HB⟩ := hcut
          cases kq with
          | zero => exact absurd HA.out (by simp [graverlaw10_DynrecNotes.j2])
          | succ kj44 =>
            have H := HA.out
            clear HA
            simp only [graverlaw10_DynrecNotes.j2] at H
            by_cases c53 : x88_44 = true
            · subst c53
              have H1 : (some false) = some r := by rw [if_pos rfl] at H; exact H
              clear H
              have H := H1
              clear H1
              obtain rfl := Option.some.inj H
              go_wp2
              go_ret
              exact ⟨by first | rfl | (simp [errW_none, errW_some] <;> rfl) | (simp [*, errW_none, errW_some] <;> rfl), by repeat (first | (with_reducible first | exact HB.out | apply below_alloc | apply pw_below_drewN | apply below_drew1 | refine below_set ?_ GE119.out) | exact HB.out)⟩
            · replace c53 := Bool.eq_false_iff.mpr c53
              subst c53
              have H1 : (if t135 = true then ((dynrec_Notes.f t117 t118 t134).bind fun bt138 => (if bt138.2 = 0 then (graverlaw10_DynrecNotes.j3 kj44 a2 x8_6 t134 bt138.1 ((bt138.1.length : Int) != (x8_6.length : Int)) t117 t118) else (graverlaw10_DynrecNotes.j3 kj44 a2 x8_6 t134 bt138.1 true t117 t118))) else (graverlaw10_DynrecNotes.j5 kj44 a2 t117 t118)) = some r := by rw [if_neg (show ¬ (false = true) by decide)] at H; exact H
              clear H
              have H := H1
              clear H1
              have HC54 := Aside0.mk H
              clear H
              go_upto_if 89 with (fail)
              go_cut [] (fun wc => ∃ (kq : Nat), Aside0 (graverlaw10_DynrecNotes.j5 kq a2 t117 t118 = some r) ∧ Aside0 (kq ≤ kj44) ∧ Aside0 (wc.heap[gb119]? = some (.cells #[.bool t117, .bool t118] 27 (0, 0))) ∧ Aside0 (Below w.heap.size w wc))
              case first =>
                have H := HC54.out
                clear HC54
                by_cases c55 : t135 = true
                · subst c55
                  have H1 : ((dynrec_Notes.f t117 t118 t134).bind fun bt138 => (if bt138.2 = 0 then (graverlaw10_DynrecNotes.j3 kj44 a2 x8_6 t134 bt138.1 ((bt138.1.length : Int) != (x8_6.length : Int)) t117 t118) else (graverlaw10_DynrecNotes.j3 kj44 a2 x8_6 t134 bt138.1 true t117 t118))) = some r := by rw [if_pos rfl] at H; exact H
                  clear H
                  have H := H1
                  clear H1
                  replace H := Option.bind_eq_some_iff.mp H
                  obtain ⟨⟨t138, t141⟩, A560, H⟩ := H
                  replace H : (if t141 = 0 then (graverlaw10_DynrecNotes.j3 kj44 a2 x8_6 t134 t138 ((t138.length : Int) != (x8_6.length : Int)) t117 t118) else (graverlaw10_DynrecNotes.j3 kj44 a2 x8_6 t134 t138 true t117 t118)) = some r := H
                  have A56 := Aside0.mk A560
                  clear A560
                  have HC57 := Aside0.mk H
                  clear H
                  have hcz58_0 : wc.cell? ⟨gb119, 0, none⟩ = some (.bool t117) := (blk_cell BK119.out 0).trans rfl
                  have hcz58_1 : wc.cell? ⟨gb119, 1, none⟩ = some (.bool t118) := (blk_cell BK119.out 1).trans rfl
                  have hfz58_0 := blk_frozen BK119.out 0
                  have hfz58_1 := blk_frozen BK119.out 1
                  go_upto_region 18 with (first | ((with_reducible refine gate_callee (f := 11) rfl ?_); refine goesL_ (some 93) rfl rfl Tryd.func11 (by kernel_rfl) rfl #[.agg #[.bool t117, .bool t118], .string t134] rfl (by (try simp only [List.map_toArray, List.map_cons, List.map_nil]); first | done | rfl | (simp only [List.length_drop, List.length_take]; rfl)) ?_; (with_reducible refine (dynrec_Notes.calls t117 t118 t134 t138 t141 _ A56.out).mono ?_); rintro e w59 ⟨v139, rfl, ho0, hb⟩; refine ⟨_, rfl, ?_⟩; have n0_ := Aside0.mk (Kd.R_elder' (by (with_reducible repeat (first | apply Kd.R_alloc | apply Kd.R_drewN | apply Kd.R_drew)); exact HO_8.out) (Kd.R_base ho0) hb); have n1_ := Aside0.mk (Kd.R_lower (Kd.R_new' ho0 (Kd.R_lt (by (with_reducible repeat (first | apply Kd.R_alloc | apply Kd.R_drewN | apply Kd.R_drew)); exact HO_8.out))) (below_size (by repeat (first | (with_reducible first | exact HB.out | apply below_alloc | apply pw_below_drewN | apply below_drew1 | refine below_set ?_ GE119.out) | exact HB.out)))); have n2_ := Aside0.mk (blk_below (g := gb119) (o := .cells #[.bool t117, .bool t118] 27 (0, 0)) (by (with_reducible repeat (first | refine blk_drewN ?_ _ | refine blk_drew ?_ | refine blk_alloc ?_ _)); exact BK119.out) hb); have n3_ := Aside0.mk (below_step (by repeat (first | (with_reducible first | exact HB.out | apply below_alloc | apply pw_below_drewN | apply below_drew1 | refine below_set ?_ GE119.out) | exact HB.out)) hb); clear HO_8; clear BK119; clear HB; have HO_8 := n0_; have HO140 := n1_; have BK119 := n2_; have HB := n3_; clear n0_ n1_ n2_ n3_; (try clear hb); (try clear hb2); (try clear hk); (try clear hi); (try clear ho0)))
                  (try simp only [Act.put, List.setIfInBounds_toArray, List.set_cons_zero, List.set_cons_succ])
                  go_cut [104] (fun v104 wc => ∃ (kq : Nat) (x104_56 : Bool), v104 = .bool x104_56 ∧ Aside0 (graverlaw10_DynrecNotes.j3 kq a2 x8_6 t134 t138 x104_56 t117 t118 = some r) ∧ Aside0 (kq ≤ kj44) ∧ Aside0 (Kd.R k34 34 wc w.heap.size (fun k_ => some k_ ≠ (v139 : Value).ownBlock) (.slice Ao47 x8_6.length co47) x8_6) ∧ Aside0 (Kd.R k34 34 wc w.heap.size (fun k_ => some k_ ≠ ((.slice Ao47 x8_6.length co47) : Value).ownBlock) v139 t138) ∧ Aside0 (wc.heap[gb119]? = some (.cells #[.bool t117, .bool t118] 27 (0, 0))) ∧ Aside0 (Below w.heap.size w wc))
                  case first =>
                    have H := HC57.out
                    clear HC57
                    by_cases c60 : t141 = 0
                    · rw [if_pos c60] at H
                      have c60b0 : (t141 == 0) = true := beq_iff_eq.mpr c60
                      have c60b1 : (t141 != 0) = false := bne_eq_false_iff_eq.mpr c60
                      clear c60
                      (first | rw [c60b0] | (simp only [i64_w, i32_w]; rw [c60b0]) | skip)
                      have H' := Aside0.mk H
                      clear H
                      obtain ⟨Ao61, co61, eo61⟩ := Kd.R_slice HO140.out
                      subst eo61
                      go_wp2
                      go_meet
                      case rel => exact ⟨_, (((t138.length : Int) != (x8_6.length : Int))), (by first | rfl | (simp; done) | (simp [*]; done)), H', ⟨by have := HJ6.out; have := HJ44.out; first | omega | exact Nat.le_refl _⟩, ⟨by (with_reducible repeat (first | apply Kd.R_alloc | apply Kd.R_drewN | apply Kd.R_drew)); exact Kd.R_mono HO_8.out (fun _ hk => hk.2)⟩, ⟨by (with_reducible repeat (first | apply Kd.R_alloc | apply Kd.R_drewN | apply Kd.R_drew)); exact Kd.R_mono HO140.out (fun _ hk => hk.2)⟩, ⟨by (with_reducible repeat (first | refine blk_drewN ?_ _ | refine blk_drew ?_ | refine blk_alloc ?_ _)); exact BK119.out⟩, ⟨by repeat (first | (with_reducible first | exact HB.out | apply below_alloc | apply pw_below_drewN | apply below_drew1 | refine below_set ?_ GE119.out) | exact HB.out)⟩⟩
                    · rw [if_neg c60] at H
                      have c60b0 : (t141 == 0) = false := beq_eq_false_iff_ne.mpr c60
                      have c60b1 : (t141 != 0) = true := bne_iff_ne.mpr c60
                      (first | rw [c60b0] | (simp only [i64_w, i32_w]; rw [c60b0]) | skip)
                      have H' := Aside0.mk H
                      clear H
                      go_wp2
                      go_meet
                      case rel => exact ⟨_, (true), (by first | rfl | (simp; done) | (simp [*]; done)), H', ⟨by have := HJ6.out; have := HJ44.out; first | omega | exact Nat.le_refl _⟩, ⟨by (with_reducible repeat (first | apply Kd.R_alloc | apply Kd.R_drewN | apply Kd.R_drew)); exact Kd.R_mono HO_8.out (fun _ hk => hk.2)⟩, ⟨by (with_reducible repeat (first | apply Kd.R_alloc | apply Kd.R_drewN | apply Kd.R_drew)); exact Kd.R_mono HO140.out (fun _ hk => hk.2)⟩, ⟨by (with_reducible repeat (first | refine blk_drewN ?_ _ | refine blk_drew ?_ | refine blk_alloc ?_ _)); exact BK119.out⟩, ⟨by repeat (first | (with_reducible first | exact HB.out | apply below_alloc | apply pw_below_drewN | apply below_drew1 | refine below_set ?_ GE119.out) | exact HB.out)⟩⟩
                  case rest =>
                    clear HC57
                    try clear c1
                    try clear c2
                    try clear p2
                    try clear c3
                    try clear c5
                    try clear c6
                    try clear p6
                    try clear c9
                    try clear c10
                    try clear c11
                    try clear c12
                    try clear c12b0
                    try clear c13
                    try clear c13b0
                    try clear c14
                    try clear c16
                    try clear c17
                    try clear c19
                    try clear c20
                    try clear c21
                    try clear c22
                    try clear c52
                    try clear c52b0
                    try clear c52b1
                    try clear c53
                    try clear c55
                    try clear c60
                    try clear c60b0
                    try clear c60b1
                    try clear hcz46_0
                    try clear hcz46_1
                    try clear hcz49_0
                    try clear hcz49_1
                    try clear hcz58_0
                    try clear hcz58_1
                    try clear hfz46_0
                    try clear hfz46_1
                    try clear hfz49_0
                    try clear hfz49_1
                    try clear hfz58_0
                    try clear hfz58_1
                    try clear p2
                    try clear p6
                    obtain ⟨kq, x104_56, rfl, HA, HJ56, HO_8, HO_16, BK119, HB⟩ := hcut
                    cases kq with
                    | zero => exact absurd HA.out (by simp [graverlaw10_DynrecNotes.j3])
                    | succ kj56 =>
                      have H := HA.out
                      clear HA
                      simp only [graverlaw10_DynrecNotes.j3] at H
                      by_cases c62 : x104_56 = true
                      · subst c62
                        have H1 : (some false) = some r := by rw [if_pos rfl] at H; exact H
                        clear H
                        have H := H1
                        clear H1
                        obtain rfl := Option.some.inj H
                        go_wp2
                        go_ret
                        exact ⟨by first | rfl | (simp [errW_none, errW_some] <;> rfl) | (simp [*, errW_none, errW_some] <;> rfl), by repeat (first | (with_reducible first | exact HB.out | apply below_alloc | apply pw_below_drewN | apply below_drew1 | refine below_set ?_ GE119.out) | exact HB.out)⟩
                      · replace c62 := Bool.eq_false_iff.mpr c62
                        subst c62
                        have H1 : (graverlaw10_DynrecNotes.l1 kj56 a2 x8_6 t134 t138 0 t117 t118) = some r := by rw [if_neg (show ¬ (false = true) by decide)] at H; exact H
                        clear H
                        have H := H1
                        clear H1
                        have H' := Aside0.mk H
                        clear H
                        go_wp2
                        go_loopg [18] kj56 (fun kq v18 w' => ∃ (x18_4 : Int), v18 = .int .i64 x18_4 ∧ Aside0 (graverlaw10_DynrecNotes.l1 kq a2 x8_6 t134 t138 x18_4 t117 t118 = some r) ∧ Aside0 (kq ≤ kj56) ∧ Aside0 (Kd.R k34 34 w' w.heap.size (fun k_ => some k_ ≠ (v139 : Value).ownBlock) (.slice Ao47 x8_6.length co47) x8_6) ∧ Aside0 (Kd.R k34 34 w' w.heap.size (fun k_ => some k_ ≠ ((.slice Ao47 x8_6.length co47) : Value).ownBlock) v139 t138) ∧ Aside0 (w'.heap[gb119]? = some (.cells #[.bool t117, .bool t118] 27 (0, 0))) ∧ Aside0 (Below w.heap.size w w'))
                        case atStart => exact ⟨(0), (by first | rfl | (simp; done) | (simp [*]; done)), H', ⟨Nat.le_refl _⟩, ⟨by (with_reducible repeat (first | apply Kd.R_alloc | apply Kd.R_drewN | apply Kd.R_drew)); exact HO_8.out⟩, ⟨by (with_reducible repeat (first | apply Kd.R_alloc | apply Kd.R_drewN | apply Kd.R_drew)); exact HO_16.out⟩, ⟨by (with_reducible repeat (first | refine blk_drewN ?_ _ | refine blk_drew ?_ | refine blk_alloc ?_ _)); exact BK119.out⟩, ⟨by repeat (first | (with_reducible first | exact HB.out | apply below_alloc | apply pw_below_drewN | apply below_drew1 | refine below_set ?_ GE119.out) | exact HB.out)⟩⟩
                        case round =>
                          clear H'
                          try clear c1
                          try clear c2
                          try clear p2
                          try clear c3
                          try clear c5
                          try clear c6
                          try clear p6
                          try clear c9
                          try clear c10
                          try clear c11
                          try clear c12
                          try clear c12b0
                          try clear c13
                          try clear c13b0
                          try clear c14
                          try clear c16
                          try clear c17
                          try clear c19
                          try clear c20
                          try clear c21
                          try clear c22
                          try clear c52
                          try clear c52b0
                          try clear c52b1
                          try clear c53
                          try clear c55
                          try clear c60
                          try clear c60b0
                          try clear c60b1
                          try clear c62
                          try clear hcz46_0
                          try clear hcz46_1
                          try clear hcz49_0
                          try clear hcz49_1
                          try clear hcz58_0
                          try clear hcz58_1
                          try clear hfz46_0
                          try clear hfz46_1
                          try clear hfz49_0
                          try clear hfz49_1
                          try clear hfz58_0
                          try clear hfz58_1
                          try clear p2
                          try clear p6
                          obtain ⟨x18_4, rfl, HA, HK4, HO_8, HO_16, BK119, HB⟩ := hrel
                          cases gk with
                          | zero => exact absurd HA.out (by simp [graverlaw10_DynrecNotes.l1])
                          | succ k4 =>
                            have H := HA.out
                            clear HA
                            simp only [graverlaw10_DynrecNotes.l1] at H
                            by_cases c63 : x18_4 < (x8_6.length : Int)
                            · rw [if_pos c63] at H
                              have c63b0 : decide (x18_4 < (x8_6.length : Int)) = true := decide_eq_true c63
                              clear c63
                              by_cases c64 : 0 ≤ x18_4
                              · rw [if_pos c64] at H
                                have c64b0 : decide (0 ≤ x18_4) = true := decide_eq_true c64
                                clear c64
                                by_cases c65 : x18_4 < (t138.length : Int)
                                · rw [if_pos c65] at H
                                  have c65b0 : decide (x18_4 < (t138.length : Int)) = true := decide_eq_true c65
                                  clear c65
                                  by_cases c66 : (!(((rd_T34 t138 x18_4).f0) == ((rd_T34 x8_6 x18_4).f0)) || (!((((rd_T34 t138 x18_4).f1).toList) == (((rd_T34 x8_6 x18_4).f1).toList)) || (!((((rd_T34 t138 x18_4).f2).toList) == (((rd_T34 x8_6 x18_4).f2).toList))))) = true
                                  · rw [if_pos c66] at H
                                    have c66b0 : (!(((rd_T34 t138 x18_4).f0) == ((rd_T34 x8_6 x18_4).f0)) || (!((((rd_T34 t138 x18_4).f1).toList) == (((rd_T34 x8_6 x18_4).f1).toList)) || (!((((rd_T34 t138 x18_4).f2).toList) == (((rd_T34 x8_6 x18_4).f2).toList))))) = true := c66
                                    clear c66
                                    obtain rfl := Option.some.inj H
                                    try go_wp2
                                    have n0_ := Aside0.mk (Kd.R_drew HO_8.out)
                                    have n1_ := Aside0.mk (Kd.R_drew HO_16.out)
                                    have n2_ := Aside0.mk (blk_drew BK119.out)
                                    have n3_ := Aside0.mk (below_drew1 HB.out)
                                    clear HO_8
                                    clear HO_16
                                    clear BK119
                                    clear HB
                                    have HO_8 := n0_
                                    have HO_16 := n1_
                                    have BK119 := n2_
                                    have HB := n3_
                                    clear n0_ n1_ n2_ n3_
                                    obtain ⟨Ao68, co68, eo68⟩ := Kd.R_slice HO_16.out
                                    (first | subst eo68 | (injection eo68 with f1_ f2_ f3_; have f4_ := f1_.symm; have f5_ := f3_.symm; clear f1_ f2_ f3_; subst f4_; subst f5_))
                                    have p142 : 0 ≤ (x18_4 : Int) := of_decide_eq_true (by first | (with_reducible assumption) | assumption)
                                    have q142 : x18_4 < (t138.length : Int) := of_decide_eq_true (by first | (with_reducible assumption) | assumption)
                                    obtain ⟨ad142, e142, hx142_0, hx142_1, hx142_2⟩ := at_T34 (Kd.R_reads' HO_16.out).2.2 x18_4 p142 q142
                                    cases e142
                                    replace p142 := eq_true p142
                                    replace q142 := eq_true q142
                                    have p143 : 0 ≤ (x18_4 : Int) := of_decide_eq_true (by first | (with_reducible assumption) | assumption)
                                    have q143 : x18_4 < (x8_6.length : Int) := of_decide_eq_true (by first | (with_reducible assumption) | assumption)
                                    obtain ⟨ad143, e143, hx143_0, hx143_1, hx143_2⟩ := at_T34 (Kd.R_reads' HO_8.out).2.2 x18_4 p143 q143
                                    cases e143
                                    replace p143 := eq_true p143
                                    replace q143 := eq_true q143
                                    refine start_ (n := 9) (S := fun w' => w'.cell? (ad142.add ((x18_4).toNat * 3)) = some (.int .u64 ((rd_T34 t138 x18_4).f0)) ∧ w'.cell? ⟨(ad142.add ((x18_4).toNat * 3)).block, (ad142.add ((x18_4).toNat * 3)).off + 1, none⟩ = some (.string ((rd_T34 t138 x18_4).f1)) ∧ w'.cell? ⟨(ad142.add ((x18_4).toNat * 3)).block, (ad142.add ((x18_4).toNat * 3)).off + 2, none⟩ = some (.string ((rd_T34 t138 x18_4).f2)) ∧ w'.cell? (ad143.add ((x18_4).toNat * 3)) = some (.int .u64 ((rd_T34 x8_6 x18_4).f0)) ∧ w'.cell? ⟨(ad143.add ((x18_4).toNat * 3)).block, (ad143.add ((x18_4).toNat * 3)).off + 1, none⟩ = some (.string ((rd_T34 x8_6 x18_4).f1)) ∧ w'.cell? ⟨(ad143.add ((x18_4).toNat * 3)).block, (ad143.add ((x18_4).toNat * 3)).off + 2, none⟩ = some (.string ((rd_T34 x8_6 x18_4).f2))) (ds := []) #[false, false, false, false, false, false, false, false, false] (by kernel_rfl) rfl rfl ⟨hx142_0, hx142_1, hx142_2, hx143_0, hx143_1, hx143_2⟩ (fun hHeld => ?_); refine with_tabW graverlaw10_DynrecNotes.tab23 graverlaw10_DynrecNotes.bits23 (fun HT_ HW_ => ?_)
                                    generalize wr.drew = w67 at HO_8 HO_16 BK119 HB hx142_0 hx142_1 hx142_2 hx143_0 hx143_1 hx143_2 hHeld ⊢
                                    refine pure_ (i := 0) (N := some 111) (v := ?_) (a' := ?_) #[true, false, false, false, false, false, false, false, false] rfl rfl (any_of HT_.out (by kernel_rfl)) (fun _ _ _ h => h) (Or.inl ⟨by rfl, ?_⟩) ?_ ?_
                                    rotate_left
                                    · intro w'
                                      go_simp
                                      first | with_reducible rfl | (rw [if_neg (by (try simp only [ByteArray.size_extract, ByteArray.size_append] at *); omega)]; first | done | with_reducible rfl)
                                    rotate_left
                                    · simp only [Act.put, List.setIfInBounds_toArray, List.set_cons_zero, List.set_cons_succ, i64_w, i32_w]
                                      rfl
                                    refine pure_ (i := 1) (N := some 112) (v := ?_) (a' := ?_) #[true, true, false, false, false, false, false, false, false] rfl rfl (any_of HT_.out (by kernel_rfl)) (fun _ _ _ h => h) (Or.inl ⟨by rfl, ?_⟩) ?_ ?_
                                    rotate_left
                                    · intro w'
                                      go_simp
                                      first | with_reducible rfl | (rw [if_neg (by (try simp only [ByteArray.size_extract, ByteArray.size_append] at *); omega)]; first | done | with_reducible rfl)
                                    rotate_left
                                    · simp only [Act.put, List.setIfInBounds_toArray, List.set_cons_zero, List.set_cons_succ, i64_w, i32_w]
                                      rfl
                                    refine pure_ (i := 2) (N := some 113) (v := ?_) (a' := ?_) #[true, true, true, false, false, false, false, false, false] rfl rfl (any_of HT_.out (by kernel_rfl)) (fun _ _ _ h => h) (Or.inl ⟨by rfl, ?_⟩) ?_ ?_
                                    rotate_left
                                    · intro w'
                                      go_simp
                                      first | with_reducible rfl | (rw [if_neg (by (try simp only [ByteArray.size_extract, ByteArray.size_append] at *); omega)]; first | done | with_reducible rfl)
                                    rotate_left
                                    · simp only [Act.put, List.setIfInBounds_toArray, List.set_cons_zero, List.set_cons_succ, i64_w, i32_w]
                                      rfl
                                    refine pure_ (i := 4) (N := some 115) (v := ?_) (a' := ?_) #[true, true, true, false, true, false, false, false, false] rfl rfl (any_of HT_.out (by kernel_rfl)) (fun _ _ _ h => h) (Or.inl ⟨by rfl, ?_⟩) ?_ ?_
                                    rotate_left
                                    · intro w'
                                      go_simp
                                      first | with_reducible rfl | (rw [if_neg (by (try simp only [ByteArray.size_extract, ByteArray.size_append] at *); omega)]; first | done | with_reducible rfl)
                                    rotate_left
                                    · simp only [Act.put, List.setIfInBounds_toArray, List.set_cons_zero, List.set_cons_succ, i64_w, i32_w]
                                      rfl
                                    refine pure_ (i := 5) (N := some 116) (v := ?_) (a' := ?_) #[true, true, true, false, true, true, false, false, false] rfl rfl (any_of HT_.out (by kernel_rfl)) (fun _ _ _ h => h) (Or.inl ⟨by rfl, ?_⟩) ?_ ?_
                                    rotate_left
                                    · intro w'
                                      go_simp
                                      first | with_reducible rfl | (rw [if_neg (by (try simp only [ByteArray.size_extract, ByteArray.size_append] at *); omega)]; first | done | with_reducible rfl)
                                    rotate_left
                                    · simp only [Act.put, List.setIfInBounds_toArray, List.set_cons_zero, List.set_cons_succ, i64_w, i32_w]
                                      rfl
                                    refine pure_ (i := 6) (N := some 117) (v := ?_) (a' := ?_) #[true, true, true, false, true, true, true, false, false] rfl rfl (any_of HT_.out (by kernel_rfl)) (fun _ _ _ h => h) (Or.inl ⟨by rfl, ?_⟩) ?_ ?_
                                    rotate_left
                                    · intro w'
                                      go_simp
                                      first | with_reducible rfl | (rw [if_neg (by (try simp only [ByteArray.size_extract, ByteArray.size_append] at *); omega)]; first | done | with_reducible rfl)
                                    rotate_left
                                    · simp only [Act.put, List.setIfInBounds_toArray, List.set_cons_zero, List.set_cons_succ, i64_w, i32_w]
                                      rfl
                                    refine take_ (i := 3) (N := some 114) (v := ?_) (a' := ?_) #[true, true, true, true, true, true, true, false, false] rfl rfl (take_ofW HT_.out HW_.out (by kernel_rfl)) (fun _ _ _ h => h) (Or.inl ⟨by rfl, ?_⟩) hHeld ?_ ?_
                                    rotate_left
                                    · rintro w' ⟨s0, s1, s2, s3, s4, s5⟩
                                      go_simp
                                      first | with_reducible rfl | (rw [if_neg (by (try simp only [ByteArray.size_extract, ByteArray.size_append] at *); omega)]; first | done | with_reducible rfl)
                                    rotate_left
                                    · simp only [Act.put, List.setIfInBounds_toArray, List.set_cons_zero, List.set_cons_succ, i64_w, i32_w]
                                      rfl
                                    refine take_ (i := 7) (N := some 118) (v := ?_) (a' := ?_) #[true, true, true, true, true, true, true, true, false] rfl rfl (take_ofW HT_.out HW_.out (by kernel_rfl)) (fun _ _ _ h => h) (Or.inl ⟨by rfl, ?_⟩) hHeld ?_ ?_
                                    rotate_left
                                    · rintro w' ⟨s0, s1, s2, s3, s4, s5⟩
                                      go_simp
                                      first | with_reducible rfl | (rw [if_neg (by (try simp only [ByteArray.size_extract, ByteArray.size_append] at *); omega)]; first | done | with_reducible rfl)
                                    rotate_left
                                    · simp only [Act.put, List.setIfInBounds_toArray, List.set_cons_zero, List.set_cons_succ, i64_w, i32_w]
                                      rfl
                                    refine pure_ (i := 8) (N := some 119) (v := ?_) (a' := ?_) #[true, true, true, true, true, true, true, true, true] rfl rfl (any_of HT_.out (by kernel_rfl)) (fun _ _ _ h => h) (Or.inl ⟨by rfl, ?_⟩) ?_ ?_
                                    rotate_left
                                    · intro w'
                                      go_simp
                                      first | with_reducible rfl | (rw [if_neg (by (try simp only [ByteArray.size_extract, ByteArray.size_append] at *); omega)]; first | done | with_reducible rfl)
                                    rotate_left
                                    · simp only [Act.put, List.setIfInBounds_toArray, List.set_cons_zero, List.set_cons_succ, i64_w, i32_w]
                                      rfl
                                    refine done_ (done_of HT_.out (by kernel_rfl)) ?_
                                    try go_wp2
                                    go_ret
                                    exact ⟨by first | rfl | (simp [errW_none, errW_some] <;> rfl) | (simp [*, errW_none, errW_some] <;> rfl), by repeat (first | (with_reducible first | exact HB.out | apply below_alloc | apply pw_below_drewN | apply below_drew1 | refine below_set ?_ GE119.out) | exact HB.out)⟩
                                  · rw [if_neg c66] at H
                                    have c66b0 : (!(((rd_T34 t138 x18_4).f0) == ((rd_T34 x8_6 x18_4).f0)) || (!((((rd_T34 t138 x18_4).f1).toList) == (((rd_T34 x8_6 x18_4).f1).toList)) || (!((((rd_T34 t138 x18_4).f2).toList) == (((rd_T34 x8_6 x18_4).f2).toList))))) = false := by simpa using c66
                                    clear c66
                                    have H' := Aside0.mk H
                                    clear H
                                    try go_wp2
                                    have n0_ := Aside0.mk (Kd.R_drew HO_8.out)
                                    have n1_ := Aside0.mk (Kd.R_drew HO_16.out)
                                    have n2_ := Aside0.mk (blk_drew BK119.out)
                                    have n3_ := Aside0.mk (below_drew1 HB.out)
                                    clear HO_8
                                    clear HO_16
                                    clear BK119
                                    clear HB
                                    have HO_8 := n0_
                                    have HO_16 := n1_
                                    have BK119 := n2_
                                    have HB := n3_
                                    clear n0_ n1_ n2_ n3_
                                    obtain ⟨Ao70, co70, eo70⟩ := Kd.R_slice HO_16.out
                                    (first | subst eo70 | (injection eo70 with f1_ f2_ f3_; have f4_ := f1_.symm; have f5_ := f3_.symm; clear f1_ f2_ f3_; subst f4_; subst f5_))
                                    have p142 : 0 ≤ (x18_4 : Int) := of_decide_eq_true (by first | (with_reducible assumption) | assumption)
                                    have q142 : x18_4 < (t138.length : Int) := of_decide_eq_true (by first | (with_reducible assumption) | assumption)
                                    obtain ⟨ad142, e142, hx142_0, hx142_1, hx142_2⟩ := at_T34 (Kd.R_reads' HO_16.out).2.2 x18_4 p142 q142
                                    cases e142
                                    replace p142 := eq_true p142
                                    replace q142 := eq_true q142
                                    have p143 : 0 ≤ (x18_4 : Int) := of_decide_eq_true (by first | (with_reducible assumption) | assumption)
                                    have q143 : x18_4 < (x8_6.length : Int) := of_decide_eq_true (by first | (with_reducible assumption) | assumption)
                                    obtain ⟨ad143, e143, hx143_0, hx143_1, hx143_2⟩ := at_T34 (Kd.R_reads' HO_8.out).2.2 x18_4 p143 q143
                                    cases e143
                                    replace p143 := eq_true p143
                                    replace q143 := eq_true q143
                                    refine start_ (n := 9) (S := fun w' => w'.cell? (ad142.add ((x18_4).toNat * 3)) = some (.int .u64 ((rd_T34 t138 x18_4).f0)) ∧ w'.cell? ⟨(ad142.add ((x18_4).toNat * 3)).block, (ad142.add ((x18_4).toNat * 3)).off + 1, none⟩ = some (.string ((rd_T34 t138 x18_4).f1)) ∧ w'.cell? ⟨(ad142.add ((x18_4).toNat * 3)).block, (ad142.add ((x18_4).toNat * 3)).off + 2, none⟩ = some (.string ((rd_T34 t138 x18_4).f2)) ∧ w'.cell? (ad143.add ((x18_4).toNat * 3)) = some (.int .u64 ((rd_T34 x8_6 x18_4).f0)) ∧ w'.cell? ⟨(ad143.add ((x18_4).toNat * 3)).block, (ad143.add ((x18_4).toNat * 3)).off + 1, none⟩ = some (.string ((rd_T34 x8_6 x18_4).f1)) ∧ w'.cell? ⟨(ad143.add ((x18_4).toNat * 3)).block, (ad143.add ((x18_4).toNat * 3)).off + 2, none⟩ = some (.string ((rd_T34 x8_6 x18_4).f2))) (ds := []) #[false, false, false, false, false, false, false, false, false] (by kernel_rfl) rfl rfl ⟨hx142_0, hx142_1, hx142_2, hx143_0, hx143_1, hx143_2⟩ (fun hHeld => ?_); refine with_tabW graverlaw10_DynrecNotes.tab23 graverlaw10_DynrecNotes.bits23 (fun HT_ HW_ => ?_)
                                    generalize wr.drew = w69 at HO_8 HO_16 BK119 HB hx142_0 hx142_1 hx142_2 hx143_0 hx143_1 hx143_2 hHeld ⊢
                                    refine pure_ (i := 0) (N := some 111) (v := ?_) (a' := ?_) #[true, false, false, false, false, false, false, false, false] rfl rfl (any_of HT_.out (by kernel_rfl)) (fun _ _ _ h => h) (Or.inl ⟨by rfl, ?_⟩) ?_ ?_
                                    rotate_left
                                    · intro w'
                                      go_simp
                                      first | with_reducible rfl | (rw [if_neg (by (try simp only [ByteArray.size_extract, ByteArray.size_append] at *); omega)]; first | done | with_reducible rfl)
                                    rotate_left
                                    · simp only [Act.put, List.setIfInBounds_toArray, List.set_cons_zero, List.set_cons_succ, i64_w, i32_w]
                                      rfl
                                    refine pure_ (i := 1) (N := some 112) (v := ?_) (a' := ?_) #[true, true, false, false, false, false, false, false, false] rfl rfl (any_of HT_.out (by kernel_rfl)) (fun _ _ _ h => h) (Or.inl ⟨by rfl, ?_⟩) ?_ ?_
                                    rotate_left
                                    · intro w'
                                      go_simp
                                      first | with_reducible rfl | (rw [if_neg (by (try simp only [ByteArray.size_extract, ByteArray.size_append] at *); omega)]; first | done | with_reducible rfl)
                                    rotate_left
                                    · simp only [Act.put, List.setIfInBounds_toArray, List.set_cons_zero, List.set_cons_succ, i64_w, i32_w]
                                      rfl
                                    refine pure_ (i := 2) (N := some 113) (v := ?_) (a' := ?_) #[true, true, true, false, false, false, false, false, false] rfl rfl (any_of HT_.out (by kernel_rfl)) (fun _ _ _ h => h) (Or.inl ⟨by rfl, ?_⟩) ?_ ?_
                                    rotate_left
                                    · intro w'
                                      go_simp
                                      first | with_reducible rfl | (rw [if_neg (by (try simp only [ByteArray.size_extract, ByteArray.size_append] at *); omega)]; first | done | with_reducible rfl)
                                    rotate_left
                                    · simp only [Act.put, List.setIfInBounds_toArray, List.set_cons_zero, List.set_cons_succ, i64_w, i32_w]
                                      rfl
                                    refine pure_ (i := 4) (N := some 115) (v := ?_) (a' := ?_) #[true, true, true, false, true, false, false, false, false] rfl rfl (any_of HT_.out (by kernel_rfl)) (fun _ _ _ h => h) (Or.inl ⟨by rfl, ?_⟩) ?_ ?_
                                    rotate_left
                                    · intro w'
                                      go_simp
                                      first | with_reducible rfl | (rw [if_neg (by (try simp only [ByteArray.size_extract, ByteArray.size_append] at *); omega)]; first | done | with_reducible rfl)
                                    rotate_left
                                    · simp only [Act.put, List.setIfInBounds_toArray, List.set_cons_zero, List.set_cons_succ, i64_w, i32_w]
                                      rfl
                                    refine pure_ (i := 5) (N := some 116) (v := ?_) (a' := ?_) #[true, true, true, false, true, true, false, false, false] rfl rfl (any_of HT_.out (by kernel_rfl)) (fun _ _ _ h => h) (Or.inl ⟨by rfl, ?_⟩) ?_ ?_
                                    rotate_left
                                    · intro w'
                                      go_simp
                                      first | with_reducible rfl | (rw [if_neg (by (try simp only [ByteArray.size_extract, ByteArray.size_append] at *); omega)]; first | done | with_reducible rfl)
                                    rotate_left
                                    · simp only [Act.put, List.setIfInBounds_toArray, List.set_cons_zero, List.set_cons_succ, i64_w, i32_w]
                                      rfl
                                    refine pure_ (i := 6) (N := some 117) (v := ?_) (a' := ?_) #[true, true, true, false, true, true, true, false, false] rfl rfl (any_of HT_.out (by kernel_rfl)) (fun _ _ _ h => h) (Or.inl ⟨by rfl, ?_⟩) ?_ ?_
                                    rotate_left
                                    · intro w'
                                      go_simp
                                      first | with_reducible rfl | (rw [if_neg (by (try simp only [ByteArray.size_extract, ByteArray.size_append] at *); omega)]; first | done | with_reducible rfl)
                                    rotate_left
                                    · simp only [Act.put, List.setIfInBounds_toArray, List.set_cons_zero, List.set_cons_succ, i64_w, i32_w]
                                      rfl
                                    refine take_ (i := 3) (N := some 114) (v := ?_) (a' := ?_) #[true, true, true, true, true, true, true, false, false] rfl rfl (take_ofW HT_.out HW_.out (by kernel_rfl)) (fun _ _ _ h => h) (Or.inl ⟨by rfl, ?_⟩) hHeld ?_ ?_
                                    rotate_left
                                    · rintro w' ⟨s0, s1, s2, s3, s4, s5⟩
                                      go_simp
                                      first | with_reducible rfl | (rw [if_neg (by (try simp only [ByteArray.size_extract, ByteArray.size_append] at *); omega)]; first | done | with_reducible rfl)
                                    rotate_left
                                    · simp only [Act.put, List.setIfInBounds_toArray, List.set_cons_zero, List.set_cons_succ, i64_w, i32_w]
                                      rfl
                                    refine take_ (i := 7) (N := some 118) (v := ?_) (a' := ?_) #[true, true, true, true, true, true, true, true, false] rfl rfl (take_ofW HT_.out HW_.out (by kernel_rfl)) (fun _ _ _ h => h) (Or.inl ⟨by rfl, ?_⟩) hHeld ?_ ?_
                                    rotate_left
                                    · rintro w' ⟨s0, s1, s2, s3, s4, s5⟩
                                      go_simp
                                      first | with_reducible rfl | (rw [if_neg (by (try simp only [ByteArray.size_extract, ByteArray.size_append] at *); omega)]; first | done | with_reducible rfl)
                                    rotate_left
                                    · simp only [Act.put, List.setIfInBounds_toArray, List.set_cons_zero, List.set_cons_succ, i64_w, i32_w]
                                      rfl
                                    refine pure_ (i := 8) (N := some 119) (v := ?_) (a' := ?_) #[true, true, true, true, true, true, true, true, true] rfl rfl (any_of HT_.out (by kernel_rfl)) (fun _ _ _ h => h) (Or.inl ⟨by rfl, ?_⟩) ?_ ?_
                                    rotate_left
                                    · intro w'
                                      go_simp
                                      first | with_reducible rfl | (rw [if_neg (by (try simp only [ByteArray.size_extract, ByteArray.size_append] at *); omega)]; first | done | with_reducible rfl)
                                    rotate_left
                                    · simp only [Act.put, List.setIfInBounds_toArray, List.set_cons_zero, List.set_cons_succ, i64_w, i32_w]
                                      rfl
                                    refine done_ (done_of HT_.out (by kernel_rfl)) ?_
                                    try go_wp2
                                    go_roundg k4
                                    case measure => have := HJ6.out; have := HJ44.out; have := HJ56.out; have := HK4.out; omega
                                    case rel => exact ⟨(wrap64 (x18_4 + 1)), (by first | rfl | (simp; done) | (simp [*]; done)), H', ⟨by have := HJ6.out; have := HJ44.out; have := HJ56.out; have := HK4.out; omega⟩, ⟨by (with_reducible repeat (first | apply Kd.R_alloc | apply Kd.R_drewN | apply Kd.R_drew)); exact HO_8.out⟩, ⟨by (with_reducible repeat (first | apply Kd.R_alloc | apply Kd.R_drewN | apply Kd.R_drew)); exact HO_16.out⟩, ⟨by (with_reducible repeat (first | refine blk_drewN ?_ _ | refine blk_drew ?_ | refine blk_alloc ?_ _)); exact BK119.out⟩, ⟨by repeat (first | (with_reducible first | exact HB.out | apply below_alloc | apply pw_below_drewN | apply below_drew1 | refine below_set ?_ GE119.out) | exact HB.out)⟩⟩
                                · rw [if_neg c65] at H
                                  exact absurd H (by simp)
                              · rw [if_neg c64] at H
                                exact absurd H (by simp)
                            · rw [if_neg c63] at H
                              have c63b0 : decide (x18_4 < (x8_6.length : Int)) = false := decide_eq_false c63
                              clear c63
                              obtain ⟨ji71, hji71⟩ : ∃ j_ : Int, (mx (wrap64 ((t134.size : Int) - 1)) 0) = j_ := ⟨_, rfl⟩
                              replace H : (if 0 ≤ (ji71) then (if (ji71) ≤ (t134.size : Int) then ((dynrec_Notes.f t117 t118 (t134.extract 0 ((ji71) : Int).toNat)).bind fun bt144 => (if (t134.size : Int) > 0 then (if bt144.2 = 3 then (graverlaw10_DynrecNotes.j5 k4 a2 t117 t118) else (some false)) else (graverlaw10_DynrecNotes.j5 k4 a2 t117 t118))) else (none)) else (none)) = some r := by first | (rw [hji71] at H; exact H) | (simp only [hji71] at H ⊢; exact H)
                              have hji71_ : (if (wrap64 ((t134.size : Int) - 1)) < 0 then 0 else (wrap64 ((t134.size : Int) - 1))) = ji71 := hji71
                              by_cases c72 : 0 ≤ (ji71)
                              · rw [if_pos c72] at H
                                have c72b0 := eq_true c72
                                have c72b1 : decide (0 ≤ (ji71)) = true := decide_eq_true c72
                                clear c72
                                by_cases c73 : (ji71) ≤ (t134.size : Int)
                                · rw [if_pos c73] at H
                                  have c73b0 := eq_true c73
                                  have c73b1 : decide ((ji71) ≤ (t134.size : Int)) = true := decide_eq_true c73
                                  clear c73
                                  replace H := Option.bind_eq_some_iff.mp H
                                  obtain ⟨⟨t144, t147⟩, A740, H⟩ := H
                                  replace H : (if (t134.size : Int) > 0 then (if t147 = 3 then (graverlaw10_DynrecNotes.j5 k4 a2 t117 t118) else (some false)) else (graverlaw10_DynrecNotes.j5 k4 a2 t117 t118)) = some r := H
                                  have A74 := Aside0.mk A740
                                  clear A740
                                  by_cases c75 : (t134.size : Int) > 0
                                  · rw [if_pos c75] at H
                                    have c75b0 : decide (0 < (t134.size : Int)) = true := decide_eq_true c75
                                    have c75b1 : decide (0 < t134.size) = true := decide_eq_true (by omega)
                                    clear c75
                                    by_cases c76 : t147 = 3
                                    · rw [if_pos c76] at H
                                      have c76b0 : (t147 == 3) = true := beq_iff_eq.mpr c76
                                      have c76b1 : (t147 != 3) = false := bne_eq_false_iff_eq.mpr c76
                                      clear c76
                                      have H' := Aside0.mk H
                                      clear H
                                      try go_wp2
                                      have n0_ := Aside0.mk (Kd.R_drew HO_8.out)
                                      have n1_ := Aside0.mk (Kd.R_drew HO_16.out)
                                      have n2_ := Aside0.mk (blk_drew BK119.out)
                                      have n3_ := Aside0.mk (below_drew1 HB.out)
                                      clear HO_8
                                      clear HO_16
                                      clear BK119
                                      clear HB
                                      have HO_8 := n0_
                                      have HO_16 := n1_
                                      have BK119 := n2_
                                      have HB := n3_
                                      clear n0_ n1_ n2_ n3_
                                      refine start_ (n := 13) (S := fun w' => w'.cell? ⟨gb119, 0, none⟩ = some (.bool t117) ∧ w'.cell? ⟨gb119, 1, none⟩ = some (.bool t118)) (ds := []) #[false, false, false, false, false, false, false, false, false, false, false, false, false] (by kernel_rfl) rfl rfl ⟨(blk_cell BK119.out 0).trans rfl, (blk_cell BK119.out 1).trans rfl⟩ (fun hHeld => ?_); refine with_tabW graverlaw10_DynrecNotes.tab25 graverlaw10_DynrecNotes.bits25 (fun HT_ HW_ => ?_)
                                      generalize wr.drew = w77 at HO_8 HO_16 BK119 HB hHeld ⊢
                                      refine pure_ (i := 1) (N := some 122) (v := ?_) (a' := ?_) #[false, true, false, false, false, false, false, false, false, false, false, false, false] rfl rfl (any_of HT_.out (by kernel_rfl)) (fun _ _ _ h => h) (Or.inl ⟨by rfl, ?_⟩) ?_ ?_
                                      rotate_left
                                      · intro w'
                                        go_simp
                                        first | with_reducible rfl | (rw [if_neg (by (try simp only [ByteArray.size_extract, ByteArray.size_append] at *); omega)]; first | done | with_reducible rfl)
                                      rotate_left
                                      · simp only [Act.put, List.setIfInBounds_toArray, List.set_cons_zero, List.set_cons_succ, i64_w, i32_w]
                                        rfl
                                      refine pure_ (i := 2) (N := some 123) (v := ?_) (a' := ?_) #[false, true, true, false, false, false, false, false, false, false, false, false, false] rfl rfl (any_of HT_.out (by kernel_rfl)) (fun _ _ _ h => h) (Or.inl ⟨by rfl, ?_⟩) ?_ ?_
                                      rotate_left
                                      · intro w'
                                        go_simp
                                        first | with_reducible rfl | (rw [if_neg (by (try simp only [ByteArray.size_extract, ByteArray.size_append] at *); omega)]; first | done | with_reducible rfl)
                                      rotate_left
                                      · simp only [Act.put, List.setIfInBounds_toArray, List.set_cons_zero, List.set_cons_succ, i64_w, i32_w]
                                        rfl
                                      refine pure_ (i := 3) (N := some 124) (v := ?_) (a' := ?_) #[false, true, true, true, false, false, false, false, false, false, false, false, false] rfl rfl (any_of HT_.out (by kernel_rfl)) (fun _ _ _ h => h) (Or.inl ⟨by rfl, ?_⟩) ?_ ?_
                                      rotate_left
                                      · intro w'
                                        go_simp
                                        first | with_reducible rfl | (rw [if_neg (by (try simp only [ByteArray.size_extract, ByteArray.size_append] at *); omega)]; first | done | with_reducible rfl)
                                      rotate_left
                                      · simp only [Act.put, List.setIfInBounds_toArray, List.set_cons_zero, List.set_cons_succ, i64_w, i32_w]
                                        rfl
                                      refine pure_ (i := 4) (N := some 125) (v := ?_) (a' := ?_) #[false, true, true, true, true, false, false, false, false, false, false, false, false] rfl rfl (any_of HT_.out (by kernel_rfl)) (fun _ _ _ h => h) (Or.inl ⟨by rfl, ?_⟩) ?_ ?_
                                      rotate_left
                                      · intro w'
                                        go_simp
                                        first | with_reducible rfl | (rw [if_neg (by (try simp only [ByteArray.size_extract, ByteArray.size_append] at *); omega)]; first | done | with_reducible rfl)
                                      rotate_left
                                      · simp only [Act.put, List.setIfInBounds_toArray, List.set_cons_zero, List.set_cons_succ, i64_w, i32_w]
                                        rfl
                                      refine pure_ (i := 5) (N := some 126) (v := ?_) (a' := ?_) #[false, true, true, true, true, true, false, false, false, false, false, false, false] rfl rfl (any_of HT_.out (by kernel_rfl)) (fun _ _ _ h => h) (Or.inl ⟨by rfl, ?_⟩) ?_ ?_
                                      rotate_left
                                      · intro w'
                                        go_simp
                                        first | with_reducible rfl | (rw [if_neg (by (try simp only [ByteArray.size_extract, ByteArray.size_append] at *); omega)]; first | done | with_reducible rfl)
                                      rotate_left
                                      · simp only [Act.put, List.setIfInBounds_toArray, List.set_cons_zero, List.set_cons_succ, i64_w, i32_w]
                                        rfl
                                      refine pure_ (i := 6) (N := some 127) (v := ?_) (a' := ?_) #[false, true, true, true, true, true, true, false, false, false, false, false, false] rfl rfl (any_of HT_.out (by kernel_rfl)) (fun _ _ _ h => h) (Or.inl ⟨by rfl, ?_⟩) ?_ ?_
                                      rotate_left
                                      · intro w'
                                        go_simp
                                        first | with_reducible rfl | (rw [if_neg (by (try simp only [ByteArray.size_extract, ByteArray.size_append] at *); omega)]; first | done | with_reducible rfl)
                                      rotate_left
                                      · simp only [Act.put, List.setIfInBounds_toArray, List.set_cons_zero, List.set_cons_succ, i64_w, i32_w]
                                        rfl
                                      refine take_ (i := 0) (N := some 121) (v := ?_) (a' := ?_) #[true, true, true, true, true, true, true, false, false, false, false, false, false] rfl rfl (take_ofW HT_.out HW_.out (by kernel_rfl)) (fun _ _ _ h => h) (Or.inl ⟨by rfl, ?_⟩) hHeld ?_ ?_
                                      rotate_left
                                      · rintro w' ⟨s0, s1⟩
                                        go_simp
                                        first | with_reducible rfl | (rw [if_neg (by (try simp only [ByteArray.size_extract, ByteArray.size_append] at *); omega)]; first | done | with_reducible rfl)
                                      rotate_left
                                      · simp only [Act.put, List.setIfInBounds_toArray, List.set_cons_zero, List.set_cons_succ, i64_w, i32_w]
                                        rfl
                                      refine one_ (i := 7) (N := some 128) #[true, true, true, true, true, true, true, true, false, false, false, false, false] rfl rfl (one_of HT_.out (by kernel_rfl)) (by decide) (fun K hK => ?_)
                                      refine goes_ Tryd.func11 (by kernel_rfl) rfl #[.agg #[.bool t117, .bool t118], .string (t134.extract 0 ((ji71) : Int).toNat)] (by rfl) rfl rfl (by (try simp only [List.map_toArray, List.map_cons, List.map_nil]); first | done | (simp only [hji71]; rfl) | rfl | (simp only [List.length_drop, List.length_take]; rfl)) ?_
                                      with_reducible refine (dynrec_Notes.calls t117 t118 (t134.extract 0 ((ji71) : Int).toNat) t144 t147 _ A74.out).mono ?_
                                      rintro e w78 ⟨v145, rfl, ho0, hb⟩
                                      refine ⟨_, rfl, ?_⟩
                                      have n0_ := Aside0.mk (Kd.R_elder' (by (with_reducible repeat (first | apply Kd.R_alloc | apply Kd.R_drewN | apply Kd.R_drew)); exact HO_8.out) (Kd.R_base ho0) hb)
                                      have n1_ := Aside0.mk (Kd.R_elder' (by (with_reducible repeat (first | apply Kd.R_alloc | apply Kd.R_drewN | apply Kd.R_drew)); exact HO_16.out) (Kd.R_base ho0) hb)
                                      have n2_ := Aside0.mk (Kd.R_lower (Kd.R_new' (Kd.R_new' ho0 (Kd.R_lt (by (with_reducible repeat (first | apply Kd.R_alloc | apply Kd.R_drewN | apply Kd.R_drew)); exact HO_8.out))) (Kd.R_lt (by (with_reducible repeat (first | apply Kd.R_alloc | apply Kd.R_drewN | apply Kd.R_drew)); exact HO_16.out))) (below_size (by repeat (first | (with_reducible first | exact HB.out | apply below_alloc | apply pw_below_drewN | apply below_drew1 | refine below_set ?_ GE119.out) | exact HB.out))))
                                      have n3_ := Aside0.mk (blk_below (g := gb119) (o := .cells #[.bool t117, .bool t118] 27 (0, 0)) (by (with_reducible repeat (first | refine blk_drewN ?_ _ | refine blk_drew ?_ | refine blk_alloc ?_ _)); exact BK119.out) hb)
                                      have n4_ := Aside0.mk (below_step (by repeat (first | (with_reducible first | exact HB.out | apply below_alloc | apply pw_below_drewN | apply below_drew1 | refine below_set ?_ GE119.out) | exact HB.out)) hb)
                                      clear HO_8
                                      clear HO_16
                                      clear BK119
                                      clear HB
                                      have HO_8 := n0_
                                      have HO_16 := n1_
                                      have HO146 := n2_
                                      have BK119 := n3_
                                      have HB := n4_
                                      clear n0_ n1_ n2_ n3_ n4_
                                      (try clear hb)
                                      (try clear hb2)
                                      (try clear hk)
                                      (try clear hi)
                                      (try clear ho0)
                                      refine hK.out _ _ ⟨(blk_cell BK119.out 0).trans rfl, (blk_cell BK119.out 1).trans rfl⟩ (fun hHeld => ?_)
                                      clear hK K
                                      refine norm_ (a' := ?_) ?_ ?_
                                      rotate_left
                                      · show Act.put _ (some 128) _ = _
                                        simp only [Act.put, List.setIfInBounds_toArray, List.set_cons_zero, List.set_cons_succ, i64_w, i32_w]
                                        rfl
                                      refine pure_ (i := 8) (N := some 120) (v := ?_) (a' := ?_) #[true, true, true, true, true, true, true, true, true, false, false, false, false] rfl rfl (any_of HT_.out (by kernel_rfl)) (fun _ _ _ h => h) (Or.inl ⟨by rfl, ?_⟩) ?_ ?_
                                      rotate_left
                                      · intro w'
                                        go_simp
                                        first | with_reducible rfl | (rw [if_neg (by (try simp only [ByteArray.size_extract, ByteArray.size_append] at *); omega)]; first | done | with_reducible rfl)
                                      rotate_left
                                      · simp only [Act.put, List.setIfInBounds_toArray, List.set_cons_zero, List.set_cons_succ, i64_w, i32_w]
                                        rfl
                                      refine pure_ (i := 9) (N := some 129) (v := ?_) (a' := ?_) #[true, true, true, true, true, true, true, true, true, true, false, false, false] rfl rfl (any_of HT_.out (by kernel_rfl)) (fun _ _ _ h => h) (Or.inl ⟨by rfl, ?_⟩) ?_ ?_
                                      rotate_left
                                      · intro w'
                                        go_simp
                                        first | with_reducible rfl | (rw [if_neg (by (try simp only [ByteArray.size_extract, ByteArray.size_append] at *); omega)]; first | done | with_reducible rfl)
                                      rotate_left
                                      · simp only [Act.put, List.setIfInBounds_toArray, List.set_cons_zero, List.set_cons_succ, i64_w, i32_w]
                                        rfl
                                      refine pure_ (i := 10) (N := some 130) (v := ?_) (a' := ?_) #[true, true, true, true, true, true, true, true, true, true, true, false, false] rfl rfl (any_of HT_.out (by kernel_rfl)) (fun _ _ _ h => h) (Or.inl ⟨by rfl, ?_⟩) ?_ ?_
                                      rotate_left
                                      · intro w'
                                        go_simp
                                        first | with_reducible rfl | (rw [if_neg (by (try simp only [ByteArray.size_extract, ByteArray.size_append] at *); omega)]; first | done | with_reducible rfl)
                                      rotate_left
                                      · simp only [Act.put, List.setIfInBounds_toArray, List.set_cons_zero, List.set_cons_succ, i64_w, i32_w]
                                        rfl
                                      refine pure_ (i := 11) (N := some 19) (v := ?_) (a' := ?_) #[true, true, true, true, true, true, true, true, true, true, true, true, false] rfl rfl (any_of HT_.out (by kernel_rfl)) (fun _ _ _ h => h) (Or.inl ⟨by rfl, ?_⟩) ?_ ?_
                                      rotate_left
                                      · intro w'
                                        go_simp
                                        first | with_reducible rfl | (rw [if_neg (by (try simp only [ByteArray.size_extract, ByteArray.size_append] at *); omega)]; first | done | with_reducible rfl)
                                      rotate_left
                                      · simp only [Act.put, List.setIfInBounds_toArray, List.set_cons_zero, List.set_cons_succ, i64_w, i32_w]
                                        rfl
                                      refine pure_ (i := 12) (N := some 20) (v := ?_) (a' := ?_) #[true, true, true, true, true, true, true, true, true, true, true, true, true] rfl rfl (any_of HT_.out (by kernel_rfl)) (fun _ _ _ h => h) (Or.inl ⟨by rfl, ?_⟩) ?_ ?_
                                      rotate_left
                                      · intro w'
                                        go_simp
                                        first | with_reducible rfl | (rw [if_neg (by (try simp only [ByteArray.size_extract, ByteArray.size_append] at *); omega)]; first | done | with_reducible rfl)
                                      rotate_left
                                      · simp only [Act.put, List.setIfInBounds_toArray, List.set_cons_zero, List.set_cons_succ, i64_w, i32_w]
                                        rfl
                                      refine done_ (done_of HT_.out (by kernel_rfl)) ?_
                                      try go_wp2
                                      go_meet
                                      case rel => exact ⟨_, H', ⟨by have := HJ6.out; have := HJ44.out; have := HJ56.out; have := HK4.out; first | omega | exact Nat.le_refl _⟩, ⟨by (with_reducible repeat (first | refine blk_drewN ?_ _ | refine blk_drew ?_ | refine blk_alloc ?_ _)); exact BK119.out⟩, ⟨by repeat (first | (with_reducible first | exact HB.out | apply below_alloc | apply pw_below_drewN | apply below_drew1 | refine below_set ?_ GE119.out) | exact HB.out)⟩⟩
                                    · rw [if_neg c76] at H
                                      have c76b0 : (t147 == 3) = false := beq_eq_false_iff_ne.mpr c76
                                      have c76b1 : (t147 != 3) = true := bne_iff_ne.mpr c76
                                      obtain rfl := Option.some.inj H
                                      try go_wp2
                                      have n0_ := Aside0.mk (Kd.R_drew HO_8.out)
                                      have n1_ := Aside0.mk (Kd.R_drew HO_16.out)
                                      have n2_ := Aside0.mk (blk_drew BK119.out)
                                      have n3_ := Aside0.mk (below_drew1 HB.out)
                                      clear HO_8
                                      clear HO_16
                                      clear BK119
                                      clear HB
                                      have HO_8 := n0_
                                      have HO_16 := n1_
                                      have BK119 := n2_
                                      have HB := n3_
                                      clear n0_ n1_ n2_ n3_
                                      refine start_ (n := 13) (S := fun w' => w'.cell? ⟨gb119, 0, none⟩ = some (.bool t117) ∧ w'.cell? ⟨gb119, 1, none⟩ = some (.bool t118)) (ds := []) #[false, false, false, false, false, false, false, false, false, false, false, false, false] (by kernel_rfl) rfl rfl ⟨(blk_cell BK119.out 0).trans rfl, (blk_cell BK119.out 1).trans rfl⟩ (fun hHeld => ?_); refine with_tabW graverlaw10_DynrecNotes.tab25 graverlaw10_DynrecNotes.bits25 (fun HT_ HW_ => ?_)
                                      generalize wr.drew = w79 at HO_8 HO_16 BK119 HB hHeld ⊢
                                      refine pure_ (i := 1) (N := some 122) (v := ?_) (a' := ?_) #[false, true, false, false, false, false, false, false, false, false, false, false, false] rfl rfl (any_of HT_.out (by kernel_rfl)) (fun _ _ _ h => h) (Or.inl ⟨by rfl, ?_⟩) ?_ ?_
                                      rotate_left
                                      · intro w'
                                        go_simp
                                        first | with_reducible rfl | (rw [if_neg (by (try simp only [ByteArray.size_extract, ByteArray.size_append] at *); omega)]; first | done | with_reducible rfl)
                                      rotate_left
                                      · simp only [Act.put, List.setIfInBounds_toArray, List.set_cons_zero, List.set_cons_succ, i64_w, i32_w]
                                        rfl
                                      refine pure_ (i := 2) (N := some 123) (v := ?_) (a' := ?_) #[false, true, true, false, false, false, false, false, false, false, false, false, false] rfl rfl (any_of HT_.out (by kernel_rfl)) (fun _ _ _ h => h) (Or.inl ⟨by rfl, ?_⟩) ?_ ?_
                                      rotate_left
                                      · intro w'
                                        go_simp
                                        first | with_reducible rfl | (rw [if_neg (by (try simp only [ByteArray.size_extract, ByteArray.size_append] at *); omega)]; first | done | with_reducible rfl)
                                      rotate_left
                                      · simp only [Act.put, List.setIfInBounds_toArray, List.set_cons_zero, List.set_cons_succ, i64_w, i32_w]
                                        rfl
                                      refine pure_ (i := 3) (N := some 124) (v := ?_) (a' := ?_) #[false, true, true, true, false, false, false, false, false, false, false, false, false] rfl rfl (any_of HT_.out (by kernel_rfl)) (fun _ _ _ h => h) (Or.inl ⟨by rfl, ?_⟩) ?_ ?_
                                      rotate_left
                                      · intro w'
                                        go_simp
                                        first | with_reducible rfl | (rw [if_neg (by (try simp only [ByteArray.size_extract, ByteArray.size_append] at *); omega)]; first | done | with_reducible rfl)
                                      rotate_left
                                      · simp only [Act.put, List.setIfInBounds_toArray, List.set_cons_zero, List.set_cons_succ, i64_w, i32_w]
                                        rfl
                                      refine pure_ (i := 4) (N := some 125) (v := ?_) (a' := ?_) #[false, true, true, true, true, false, false, false, false, false, false, false, false] rfl rfl (any_of HT_.out (by kernel_rfl)) (fun _ _ _ h => h) (Or.inl ⟨by rfl, ?_⟩) ?_ ?_
                                      rotate_left
                                      · intro w'
                                        go_simp
                                        first | with_reducible rfl | (rw [if_neg (by (try simp only [ByteArray.size_extract, ByteArray.size_append] at *); omega)]; first | done | with_reducible rfl)
                                      rotate_left
                                      · simp only [Act.put, List.setIfInBounds_toArray, List.set_cons_zero, List.set_cons_succ, i64_w, i32_w]
                                        rfl
                                      refine pure_ (i := 5) (N := some 126) (v := ?_) (a' := ?_) #[false, true, true, true, true, true, false, false, false, false, false, false, false] rfl rfl (any_of HT_.out (by kernel_rfl)) (fun _ _ _ h => h) (Or.inl ⟨by rfl, ?_⟩) ?_ ?_
                                      rotate_left
                                      · intro w'
                                        go_simp
                                        first | with_reducible rfl | (rw [if_neg (by (try simp only [ByteArray.size_extract, ByteArray.size_append] at *); omega)]; first | done | with_reducible rfl)
                                      rotate_left
                                      · simp only [Act.put, List.setIfInBounds_toArray, List.set_cons_zero, List.set_cons_succ, i64_w, i32_w]
                                        rfl
                                      refine pure_ (i := 6) (N := some 127) (v := ?_) (a' := ?_) #[false, true, true, true, true, true, true, false, false, false, false, false, false] rfl rfl (any_of HT_.out (by kernel_rfl)) (fun _ _ _ h => h) (Or.inl ⟨by rfl, ?_⟩) ?_ ?_
                                      rotate_left
                                      · intro w'
                                        go_simp
                                        first | with_reducible rfl | (rw [if_neg (by (try simp only [ByteArray.size_extract, ByteArray.size_append] at *); omega)]; first | done | with_reducible rfl)
                                      rotate_left
                                      · simp only [Act.put, List.setIfInBounds_toArray, List.set_cons_zero, List.set_cons_succ, i64_w, i32_w]
                                        rfl
                                      refine take_ (i := 0) (N := some 121) (v := ?_) (a' := ?_) #[true, true, true, true, true, true, true, false, false, false, false, false, false] rfl rfl (take_ofW HT_.out HW_.out (by kernel_rfl)) (fun _ _ _ h => h) (Or.inl ⟨by rfl, ?_⟩) hHeld ?_ ?_
                                      rotate_left
                                      · rintro w' ⟨s0, s1⟩
                                        go_simp
                                        first | with_reducible rfl | (rw [if_neg (by (try simp only [ByteArray.size_extract, ByteArray.size_append] at *); omega)]; first | done | with_reducible rfl)
                                      rotate_left
                                      · simp only [Act.put, List.setIfInBounds_toArray, List.set_cons_zero, List.set_cons_succ, i64_w, i32_w]
                                        rfl
                                      refine one_ (i := 7) (N := some 128) #[true, true, true, true, true, true, true, true, false, false, false, false, false] rfl rfl (one_of HT_.out (by kernel_rfl)) (by decide) (fun K hK => ?_)
                                      refine goes_ Tryd.func11 (by kernel_rfl) rfl #[.agg #[.bool t117, .bool t118], .string (t134.extract 0 ((ji71) : Int).toNat)] (by rfl) rfl rfl (by (try simp only [List.map_toArray, List.map_cons, List.map_nil]); first | done | (simp only [hji71]; rfl) | rfl | (simp only [List.length_drop, List.length_take]; rfl)) ?_
                                      with_reducible refine (dynrec_Notes.calls t117 t118 (t134.extract 0 ((ji71) : Int).toNat) t144 t147 _ A74.out).mono ?_
                                      rintro e w80 ⟨v145, rfl, ho0, hb⟩
                                      refine ⟨_, rfl, ?_⟩
                                      have n0_ := Aside0.mk (Kd.R_elder' (by (with_reducible repeat (first | apply Kd.R_alloc | apply Kd.R_drewN | apply Kd.R_drew)); exact HO_8.out) (Kd.R_base ho0) hb)
                                      have n1_ := Aside0.mk (Kd.R_elder' (by (with_reducible repeat (first | apply Kd.R_alloc | apply Kd.R_drewN | apply Kd.R_drew)); exact HO_16.out) (Kd.R_base ho0) hb)
                                      have n2_ := Aside0.mk (Kd.R_lower (Kd.R_new' (Kd.R_new' ho0 (Kd.R_lt (by (with_reducible repeat (first | apply Kd.R_alloc | apply Kd.R_drewN | apply Kd.R_drew)); exact HO_8.out))) (Kd.R_lt (by (with_reducible repeat (first | apply Kd.R_alloc | apply Kd.R_drewN | apply Kd.R_drew)); exact HO_16.out))) (below_size (by repeat (first | (with_reducible first | exact HB.out | apply below_alloc | apply pw_below_drewN | apply below_drew1 | refine below_set ?_ GE119.out) | exact HB.out))))
                                      have n3_ := Aside0.mk (blk_below (g := gb119) (o := .cells #[.bool t117, .bool t118] 27 (0, 0)) (by (with_reducible repeat (first | refine blk_drewN ?_ _ | refine blk_drew ?_ | refine blk_alloc ?_ _)); exact BK119.out) hb)
                                      have n4_ := Aside0.mk (below_step (by repeat (first | (with_reducible first | exact HB.out | apply below_alloc | apply pw_below_drewN | apply below_drew1 | refine below_set ?_ GE119.out) | exact HB.out)) hb)
                                      clear HO_8
                                      clear HO_16
                                      clear BK119
                                      clear HB
                                      have HO_8 := n0_
                                      have HO_16 := n1_
                                      have HO146 := n2_
                                      have BK119 := n3_
                                      have HB := n4_
                                      clear n0_ n1_ n2_ n3_ n4_
                                      (try clear hb)
                                      (try clear hb2)
                                      (try clear hk)
                                      (try clear hi)
                                      (try clear ho0)
                                      refine hK.out _ _ ⟨(blk_cell BK119.out 0).trans rfl, (blk_cell BK119.out 1).trans rfl⟩ (fun hHeld => ?_)
                                      clear hK K
                                      refine norm_ (a' := ?_) ?_ ?_
                                      rotate_left
                                      · show Act.put _ (some 128) _ = _
                                        simp only [Act.put, List.setIfInBounds_toArray, List.set_cons_zero, List.set_cons_succ, i64_w, i32_w]
                                        rfl
                                      refine pure_ (i := 8) (N := some 120) (v := ?_) (a' := ?_) #[true, true, true, true, true, true, true, true, true, false, false, false, false] rfl rfl (any_of HT_.out (by kernel_rfl)) (fun _ _ _ h => h) (Or.inl ⟨by rfl, ?_⟩) ?_ ?_
                                      rotate_left
                                      · intro w'
                                        go_simp
                                        first | with_reducible rfl | (rw [if_neg (by (try simp only [ByteArray.size_extract, ByteArray.size_append] at *); omega)]; first | done | with_reducible rfl)
                                      rotate_left
                                      · simp only [Act.put, List.setIfInBounds_toArray, List.set_cons_zero, List.set_cons_succ, i64_w, i32_w]
                                        rfl
                                      refine pure_ (i := 9) (N := some 129) (v := ?_) (a' := ?_) #[true, true, true, true, true, true, true, true, true, true, false, false, false] rfl rfl (any_of HT_.out (by kernel_rfl)) (fun _ _ _ h => h) (Or.inl ⟨by rfl, ?_⟩) ?_ ?_
                                      rotate_left
                                      · intro w'
                                        go_simp
                                        first | with_reducible rfl | (rw [if_neg (by (try simp only [ByteArray.size_extract, ByteArray.size_append] at *); omega)]; first | done | with_reducible rfl)
                                      rotate_left
                                      · simp only [Act.put, List.setIfInBounds_toArray, List.set_cons_zero, List.set_cons_succ, i64_w, i32_w]
                                        rfl
                                      refine pure_ (i := 10) (N := some 130) (v := ?_) (a' := ?_) #[true, true, true, true, true, true, true, true, true, true, true, false, false] rfl rfl (any_of HT_.out (by kernel_rfl)) (fun _ _ _ h => h) (Or.inl ⟨by rfl, ?_⟩) ?_ ?_
                                      rotate_left
                                      · intro w'
                                        go_simp
                                        first | with_reducible rfl | (rw [if_neg (by (try simp only [ByteArray.size_extract, ByteArray.size_append] at *); omega)]; first | done | with_reducible rfl)
                                      rotate_left
                                      · simp only [Act.put, List.setIfInBounds_toArray, List.set_cons_zero, List.set_cons_succ, i64_w, i32_w]
                                        rfl
                                      refine pure_ (i := 11) (N := some 19) (v := ?_) (a' := ?_) #[true, true, true, true, true, true, true, true, true, true, true, true, false] rfl rfl (any_of HT_.out (by kernel_rfl)) (fun _ _ _ h => h) (Or.inl ⟨by rfl, ?_⟩) ?_ ?_
                                      rotate_left
                                      · intro w'
                                        go_simp
                                        first | with_reducible rfl | (rw [if_neg (by (try simp only [ByteArray.size_extract, ByteArray.size_append] at *); omega)]; first | done | with_reducible rfl)
                                      rotate_left
                                      · simp only [Act.put, List.setIfInBounds_toArray, List.set_cons_zero, List.set_cons_succ, i64_w, i32_w]
                                        rfl
                                      refine pure_ (i := 12) (N := some 20) (v := ?_) (a' := ?_) #[true, true, true, true, true, true, true, true, true, true, true, true, true] rfl rfl (any_of HT_.out (by kernel_rfl)) (fun _ _ _ h => h) (Or.inl ⟨by rfl, ?_⟩) ?_ ?_
                                      rotate_left
                                      · intro w'
                                        go_simp
                                        first | with_reducible rfl | (rw [if_neg (by (try simp only [ByteArray.size_extract, ByteArray.size_append] at *); omega)]; first | done | with_reducible rfl)
                                      rotate_left
                                      · simp only [Act.put, List.setIfInBounds_toArray, List.set_cons_zero, List.set_cons_succ, i64_w, i32_w]
                                        rfl
                                      refine done_ (done_of HT_.out (by kernel_rfl)) ?_
                                      try go_wp2
                                      go_ret
                                      exact ⟨by first | rfl | (simp [errW_none, errW_some] <;> rfl) | (simp only [← hji71]; first | rfl | (simp [errW_none, errW_some] <;> rfl)) | (simp [*, errW_none, errW_some] <;> rfl), by repeat (first | (with_reducible first | exact HB.out | apply below_alloc | apply pw_below_drewN | apply below_drew1 | refine below_set ?_ GE119.out) | exact HB.out)⟩
                                  · rw [if_neg c75] at H
                                    have c75b0 : decide (0 < (t134.size : Int)) = false := decide_eq_false c75
                                    have c75b1 : decide (0 < t134.size) = false := decide_eq_false (by omega)
                                    clear c75
                                    have H' := Aside0.mk H
                                    clear H
                                    try go_wp2
                                    have n0_ := Aside0.mk (Kd.R_drew HO_8.out)
                                    have n1_ := Aside0.mk (Kd.R_drew HO_16.out)
                                    have n2_ := Aside0.mk (blk_drew BK119.out)
                                    have n3_ := Aside0.mk (below_drew1 HB.out)
                                    clear HO_8
                                    clear HO_16
                                    clear BK119
                                    clear HB
                                    have HO_8 := n0_
                                    have HO_16 := n1_
                                    have BK119 := n2_
                                    have HB := n3_
                                    clear n0_ n1_ n2_ n3_
                                    refine start_ (n := 13) (S := fun w' => w'.cell? ⟨gb119, 0, none⟩ = some (.bool t117) ∧ w'.cell? ⟨gb119, 1, none⟩ = some (.bool t118)) (ds := []) #[false, false, false, false, false, false, false, false, false, false, false, false, false] (by kernel_rfl) rfl rfl ⟨(blk_cell BK119.out 0).trans rfl, (blk_cell BK119.out 1).trans rfl⟩ (fun hHeld => ?_); refine with_tabW graverlaw10_DynrecNotes.tab25 graverlaw10_DynrecNotes.bits25 (fun HT_ HW_ => ?_)
                                    generalize wr.drew = w81 at HO_8 HO_16 BK119 HB hHeld ⊢
                                    refine pure_ (i := 1) (N := some 122) (v := ?_) (a' := ?_) #[false, true, false, false, false, false, false, false, false, false, false, false, false] rfl rfl (any_of HT_.out (by kernel_rfl)) (fun _ _ _ h => h) (Or.inl ⟨by rfl, ?_⟩) ?_ ?_
                                    rotate_left
                                    · intro w'
                                      go_simp
                                      first | with_reducible rfl | (rw [if_neg (by (try simp only [ByteArray.size_extract, ByteArray.size_append] at *); omega)]; first | done | with_reducible rfl)
                                    rotate_left
                                    · simp only [Act.put, List.setIfInBounds_toArray, List.set_cons_zero, List.set_cons_succ, i64_w, i32_w]
                                      rfl
                                    refine pure_ (i := 2) (N := some 123) (v := ?_) (a' := ?_) #[false, true, true, false, false, false, false, false, false, false, false, false, false] rfl rfl (any_of HT_.out (by kernel_rfl)) (fun _ _ _ h => h) (Or.inl ⟨by rfl, ?_⟩) ?_ ?_
                                    rotate_left
                                    · intro w'
                                      go_simp
                                      first | with_reducible rfl | (rw [if_neg (by (try simp only [ByteArray.size_extract, ByteArray.size_append] at *); omega)]; first | done | with_reducible rfl)
                                    rotate_left
                                    · simp only [Act.put, List.setIfInBounds_toArray, List.set_cons_zero, List.set_cons_succ, i64_w, i32_w]
                                      rfl
                                    refine pure_ (i := 3) (N := some 124) (v := ?_) (a' := ?_) #[false, true, true, true, false, false, false, false, false, false, false, false, false] rfl rfl (any_of HT_.out (by kernel_rfl)) (fun _ _ _ h => h) (Or.inl ⟨by rfl, ?_⟩) ?_ ?_
                                    rotate_left
                                    · intro w'
                                      go_simp
                                      first | with_reducible rfl | (rw [if_neg (by (try simp only [ByteArray.size_extract, ByteArray.size_append] at *); omega)]; first | done | with_reducible rfl)
                                    rotate_left
                                    · simp only [Act.put, List.setIfInBounds_toArray, List.set_cons_zero, List.set_cons_succ, i64_w, i32_w]
                                      rfl
                                    refine pure_ (i := 4) (N := some 125) (v := ?_) (a' := ?_) #[false, true, true, true, true, false, false, false, false, false, false, false, false] rfl rfl (any_of HT_.out (by kernel_rfl)) (fun _ _ _ h => h) (Or.inl ⟨by rfl, ?_⟩) ?_ ?_
                                    rotate_left
                                    · intro w'
                                      go_simp
                                      first | with_reducible rfl | (rw [if_neg (by (try simp only [ByteArray.size_extract, ByteArray.size_append] at *); omega)]; first | done | with_reducible rfl)
                                    rotate_left
                                    · simp only [Act.put, List.setIfInBounds_toArray, List.set_cons_zero, List.set_cons_succ, i64_w, i32_w]
                                      rfl
                                    refine pure_ (i := 5) (N := some 126) (v := ?_) (a' := ?_) #[false, true, true, true, true, true, false, false, false, false, false, false, false] rfl rfl (any_of HT_.out (by kernel_rfl)) (fun _ _ _ h => h) (Or.inl ⟨by rfl, ?_⟩) ?_ ?_
                                    rotate_left
                                    · intro w'
                                      go_simp
                                      first | with_reducible rfl | (rw [if_neg (by (try simp only [ByteArray.size_extract, ByteArray.size_append] at *); omega)]; first | done | with_reducible rfl)
                                    rotate_left
                                    · simp only [Act.put, List.setIfInBounds_toArray, List.set_cons_zero, List.set_cons_succ, i64_w, i32_w]
                                      rfl
                                    refine pure_ (i := 6) (N := some 127) (v := ?_) (a' := ?_) #[false, true, true, true, true, true, true, false, false, false, false, false, false] rfl rfl (any_of HT_.out (by kernel_rfl)) (fun _ _ _ h => h) (Or.inl ⟨by rfl, ?_⟩) ?_ ?_
                                    rotate_left
                                    · intro w'
                                      go_simp
                                      first | with_reducible rfl | (rw [if_neg (by (try simp only [ByteArray.size_extract, ByteArray.size_append] at *); omega)]; first | done | with_reducible rfl)
                                    rotate_left
                                    · simp only [Act.put, List.setIfInBounds_toArray, List.set_cons_zero, List.set_cons_succ, i64_w, i32_w]
                                      rfl
                                    refine take_ (i := 0) (N := some 121) (v := ?_) (a' := ?_) #[true, true, true, true, true, true, true, false, false, false, false, false, false] rfl rfl (take_ofW HT_.out HW_.out (by kernel_rfl)) (fun _ _ _ h => h) (Or.inl ⟨by rfl, ?_⟩) hHeld ?_ ?_
                                    rotate_left
                                    · rintro w' ⟨s0, s1⟩
                                      go_simp
                                      first | with_reducible rfl | (rw [if_neg (by (try simp only [ByteArray.size_extract, ByteArray.size_append] at *); omega)]; first | done | with_reducible rfl)
                                    rotate_left
                                    · simp only [Act.put, List.setIfInBounds_toArray, List.set_cons_zero, List.set_cons_succ, i64_w, i32_w]
                                      rfl
                                    refine one_ (i := 7) (N := some 128) #[true, true, true, true, true, true, true, true, false, false, false, false, false] rfl rfl (one_of HT_.out (by kernel_rfl)) (by decide) (fun K hK => ?_)
                                    refine goes_ Tryd.func11 (by kernel_rfl) rfl #[.agg #[.bool t117, .bool t118], .string (t134.extract 0 ((ji71) : Int).toNat)] (by rfl) rfl rfl (by (try simp only [List.map_toArray, List.map_cons, List.map_nil]); first | done | (simp only [hji71]; rfl) | rfl | (simp only [List.length_drop, List.length_take]; rfl)) ?_
                                    with_reducible refine (dynrec_Notes.calls t117 t118 (t134.extract 0 ((ji71) : Int).toNat) t144 t147 _ A74.out).mono ?_
                                    rintro e w82 ⟨v145, rfl, ho0, hb⟩
                                    refine ⟨_, rfl, ?_⟩
                                    have n0_ := Aside0.mk (Kd.R_elder' (by (with_reducible repeat (first | apply Kd.R_alloc | apply Kd.R_drewN | apply Kd.R_drew)); exact HO_8.out) (Kd.R_base ho0) hb)
                                    have n1_ := Aside0.mk (Kd.R_elder' (by (with_reducible repeat (first | apply Kd.R_alloc | apply Kd.R_drewN | apply Kd.R_drew)); exact HO_16.out) (Kd.R_base ho0) hb)
                                    have n2_ := Aside0.mk (Kd.R_lower (Kd.R_new' (Kd.R_new' ho0 (Kd.R_lt (by (with_reducible repeat (first | apply Kd.R_alloc | apply Kd.R_drewN | apply Kd.R_drew)); exact HO_8.out))) (Kd.R_lt (by (with_reducible repeat (first | apply Kd.R_alloc | apply Kd.R_drewN | apply Kd.R_drew)); exact HO_16.out))) (below_size (by repeat (first | (with_reducible first | exact HB.out | apply below_alloc | apply pw_below_drewN | apply below_drew1 | refine below_set ?_ GE119.out) | exact HB.out))))
                                    have n3_ := Aside0.mk (blk_below (g := gb119) (o := .cells #[.bool t117, .bool t118] 27 (0, 0)) (by (with_reducible repeat (first | refine blk_drewN ?_ _ | refine blk_drew ?_ | refine blk_alloc ?_ _)); exact BK119.out) hb)
                                    have n4_ := Aside0.mk (below_step (by repeat (first | (with_reducible first | exact HB.out | apply below_alloc | apply pw_below_drewN | apply below_drew1 | refine below_set ?_ GE119.out) | exact HB.out)) hb)
                                    clear HO_8
                                    clear HO_16
                                    clear BK119
                                    clear HB
                                    have HO_8 := n0_
                                    have HO_16 := n1_
                                    have HO146 := n2_
                                    have BK119 := n3_
                                    have HB := n4_
                                    clear n0_ n1_ n2_ n3_ n4_
                                    (try clear hb)
                                    (try clear hb2)
                                    (try clear hk)
                                    (try clear hi)
                                    (try clear ho0)
                                    refine hK.out _ _ ⟨(blk_cell BK119.out 0).trans rfl, (blk_cell BK119.out 1).trans rfl⟩ (fun hHeld => ?_)
                                    clear hK K
                                    refine norm_ (a' := ?_) ?_ ?_
                                    rotate_left
                                    · show Act.put _ (some 128) _ = _
                                      simp only [Act.put, List.setIfInBounds_toArray, List.set_cons_zero, List.set_cons_succ, i64_w, i32_w]
                                      rfl
                                    refine pure_ (i := 8) (N := some 120) (v := ?_) (a' := ?_) #[true, true, true, true, true, true, true, true, true, false, false, false, false] rfl rfl (any_of HT_.out (by kernel_rfl)) (fun _ _ _ h => h) (Or.inl ⟨by rfl, ?_⟩) ?_ ?_
                                    rotate_left
                                    · intro w'
                                      go_simp
                                      first | with_reducible rfl | (rw [if_neg (by (try simp only [ByteArray.size_extract, ByteArray.size_append] at *); omega)]; first | done | with_reducible rfl)
                                    rotate_left
                                    · simp only [Act.put, List.setIfInBounds_toArray, List.set_cons_zero, List.set_cons_succ, i64_w, i32_w]
                                      rfl
                                    refine pure_ (i := 9) (N := some 129) (v := ?_) (a' := ?_) #[true, true, true, true, true, true, true, true, true, true, false, false, false] rfl rfl (any_of HT_.out (by kernel_rfl)) (fun _ _ _ h => h) (Or.inl ⟨by rfl, ?_⟩) ?_ ?_
                                    rotate_left
                                    · intro w'
                                      go_simp
                                      first | with_reducible rfl | (rw [if_neg (by (try simp only [ByteArray.size_extract, ByteArray.size_append] at *); omega)]; first | done | with_reducible rfl)
                                    rotate_left
                                    · simp only [Act.put, List.setIfInBounds_toArray, List.set_cons_zero, List.set_cons_succ, i64_w, i32_w]
                                      rfl
                                    refine pure_ (i := 10) (N := some 130) (v := ?_) (a' := ?_) #[true, true, true, true, true, true, true, true, true, true, true, false, false] rfl rfl (any_of HT_.out (by kernel_rfl)) (fun _ _ _ h => h) (Or.inl ⟨by rfl, ?_⟩) ?_ ?_
                                    rotate_left
                                    · intro w'
                                      go_simp
                                      first | with_reducible rfl | (rw [if_neg (by (try simp only [ByteArray.size_extract, ByteArray.size_append] at *); omega)]; first | done | with_reducible rfl)
                                    rotate_left
                                    · simp only [Act.put, List.setIfInBounds_toArray, List.set_cons_zero, List.set_cons_succ, i64_w, i32_w]
                                      rfl
                                    refine pure_ (i := 11) (N := some 19) (v := ?_) (a' := ?_) #[true, true, true, true, true, true, true, true, true, true, true, true, false] rfl rfl (any_of HT_.out (by kernel_rfl)) (fun _ _ _ h => h) (Or.inl ⟨by rfl, ?_⟩) ?_ ?_
                                    rotate_left
                                    · intro w'
                                      go_simp
                                      first | with_reducible rfl | (rw [if_neg (by (try simp only [ByteArray.size_extract, ByteArray.size_append] at *); omega)]; first | done | with_reducible rfl)
                                    rotate_left
                                    · simp only [Act.put, List.setIfInBounds_toArray, List.set_cons_zero, List.set_cons_succ, i64_w, i32_w]
                                      rfl
                                    refine pure_ (i := 12) (N := some 20) (v := ?_) (a' := ?_) #[true, true, true, true, true, true, true, true, true, true, true, true, true] rfl rfl (any_of HT_.out (by kernel_rfl)) (fun _ _ _ h => h) (Or.inl ⟨by rfl, ?_⟩) ?_ ?_
                                    rotate_left
                                    · intro w'
                                      go_simp
                                      first | with_reducible rfl | (rw [if_neg (by (try simp only [ByteArray.size_extract, ByteArray.size_append] at *); omega)]; first | done | with_reducible rfl)
                                    rotate_left
                                    · simp only [Act.put, List.setIfInBounds_toArray, List.set_cons_zero, List.set_cons_succ, i64_w, i32_w]
                                      rfl
                                    refine done_ (done_of HT_.out (by kernel_rfl)) ?_
                                    try go_wp2
                                    go_meet
                                    case rel => exact ⟨_, H', ⟨by have := HJ6.out; have := HJ44.out; have := HJ56.out; have := HK4.out; first | omega | exact Nat.le_refl _⟩, ⟨by (with_reducible repeat (first | refine blk_drewN ?_ _ | refine blk_drew ?_ | refine blk_alloc ?_ _)); exact BK119.out⟩, ⟨by repeat (first | (with_reducible first | exact HB.out | apply below_alloc | apply pw_below_drewN | apply below_drew1 | refine below_set ?_ GE119.out) | exact HB.out)⟩⟩
                                · rw [if_neg c73] at H
                                  exact absurd H (by simp)
                              · rw [if_neg c72] at H
                                exact absurd H (by simp)
                · replace c55 := Bool.eq_false_iff.mpr c55
                  subst c55
                  have H1 : (graverlaw10_DynrecNotes.j5 kj44 a2 t117 t118) = some r := by rw [if_neg (show ¬ (false = true) by decide)] at H; exact H
                  clear H
                  have H := H1
                  clear H1
                  have H' := Aside0.mk H
                  clear H
                  go_wp2
                  go_meet
                  case rel => exact ⟨_, H', ⟨by have := HJ6.out; have := HJ44.out; first | omega | exact Nat.le_refl _⟩, ⟨by (with_reducible repeat (first | refine blk_drewN ?_ _ | refine blk_drew ?_ | refine blk_alloc ?_ _)); exact BK119.out⟩, ⟨by repeat (first | (with_reducible first | exact HB.out | apply below_alloc | apply pw_below_drewN | apply below_drew1 | refine below_set ?_ GE119.out) | exact HB.out)⟩⟩
              case rest =>
                clear HC54
                try clear c1
                try clear p1
                try clear q1
                try clear hx1
                try clear p2
                try clear c5
                try clear c6
                try clear p6
                try clear c7
                try clear c11
                try clear p14
                try clear q14
                try clear hx14
                try clear c55
                try clear c63
                try clear c63b0
                try clear c64
                try clear p64
                try clear c65
                try clear c72
                try clear c72b0
                try clear c72b1
                try clear c73
                try clear c73b0
                try clear c73b1
                try clear c75
                try clear c75b0
                try clear c75b1
                try clear c76
                try clear c76b0
                try clear c76b1
                try clear hx142_0
                try clear hx142_1
                try clear hx142_2
                try clear hx143_0
                try clear hx143_1
                try clear hx143_2
                try clear p142
                try clear p143
                try clear q142
                try clear q143
                obtain ⟨kq, HA, HJ53, BK119, HB⟩ := hcut
                cases kq with
                | zero => exact absurd HA.out (by simp [graverlaw10_DynrecNotes.j5])
                | succ kj53 =>
                  have H := HA.out
                  clear HA
                  simp only [graverlaw10_DynrecNotes.j5] at H
                  obtain ⟨ji83, hji83⟩ : ∃ j_ : Int, (mn (a2.size : Int) 300) = j_ := ⟨_, rfl⟩
                  replace H : (if 0 ≤ (ji83) then (if (ji83) ≤ (a2.size : Int) then ((dynrec_Notes.f t117 t118 (a2.extract 0 ((ji83) : Int).toNat)).bind fun bt148 => (if bt148.2 = 0 then ((dynrec_PutNotes.f t117 t118 bt148.1).bind fun bt152 => (if bt152.2 = true then (some (bt152.1.toList == (a2.extract 0 ((ji83) : Int).toNat).toList)) else (some false))) else (if bt148.2 = 3 then (some ((bt148.1.length : Int) == 0)) else (if bt148.2 = 6 then (some ((bt148.1.length : Int) == 0)) else (some false))))) else (none)) else (none)) = some r := by first | (rw [hji83] at H; exact H) | (simp only [hji83] at H ⊢; exact H)
                  have hji83_ : (if 300 < (a2.size : Int) then 300 else (a2.size : Int)) = ji83 := hji83
                  by_cases c84 : 0 ≤ (ji83)
                  · rw [if_pos c84] at H
                    have c84b0 := eq_true c84
                    have c84b1 : decide (0 ≤ (ji83)) = true := decide_eq_true c84
                    clear c84
                    by_cases c85 : (ji83) ≤ (a2.size : Int)
                    · rw [if_pos c85] at H
                      have c85b0 := eq_true c85
                      have c85b1 : decide ((ji83) ≤ (a2.size : Int)) = true := decide_eq_true c85
                      clear c85
                      replace H := Option.bind_eq_some_iff.mp H
                      obtain ⟨⟨t148, t151⟩, A860, H⟩ := H
                      replace H : (if t151 = 0 then ((dynrec_PutNotes.f t117 t118 t148).bind fun bt152 => (if bt152.2 = true then (some (bt152.1.toList == (a2.extract 0 ((ji83) : Int).toNat).toList)) else (some false))) else (if t151 = 3 then (some ((t148.length : Int) == 0)) else (if t151 = 6 then (some ((t148.length : Int) == 0)) else (some false)))) = some r := H
                      have A86 := Aside0.mk A860
                      clear A860
                      by_cases c87 : t151 = 0
                      · rw [if_pos c87] at H
                        have c87b0 : (t151 == 0) = true := beq_iff_eq.mpr c87
                        have c87b1 : (t151 != 0) = false := bne_eq_false_iff_eq.mpr c87
                        clear c87
                        replace H := Option.bind_eq_some_iff.mp H
                        obtain ⟨⟨t152, t153⟩, A880, H⟩ := H
                        replace H : (if t153 = true then (some (t152.toList == (a2.extract 0 ((ji83) : Int).toNat).toList)) else (some false)) = some r := H
                        have A88 := Aside0.mk A880
                        clear A880
                        by_cases c89 : t153 = true
                        · subst c89
                          have H1 : (some (t152.toList == (a2.extract 0 ((ji83) : Int).toNat).toList)) = some r := by rw [if_pos rfl] at H; exact H
                          clear H
                          have H := H1
                          clear H1
                          obtain rfl := Option.some.inj H
                          have hcz90_0 : wc.cell? ⟨gb119, 0, none⟩ = some (.bool t117) := (blk_cell BK119.out 0).trans rfl
                          have hcz90_1 : wc.cell? ⟨gb119, 1, none⟩ = some (.bool t118) := (blk_cell BK119.out 1).trans rfl
                          have hfz90_0 := blk_frozen BK119.out 0
                          have hfz90_1 := blk_frozen BK119.out 1
                          go_wp2_with (first | ((with_reducible refine gate_callee (f := 11) rfl ?_); refine goesL_ (some 146) rfl rfl Tryd.func11 (by kernel_rfl) rfl #[.agg #[.bool t117, .bool t118], .string (a2.extract 0 ((ji83) : Int).toNat)] rfl (by (try simp only [List.map_toArray, List.map_cons, List.map_nil]); first | done | (simp only [hji83]; rfl) | rfl | (simp only [List.length_drop, List.length_take]; rfl)) ?_; (with_reducible refine (dynrec_Notes.calls t117 t118 (a2.extract 0 ((ji83) : Int).toNat) t148 t151 _ A86.out).mono ?_); rintro e w91 ⟨v149, rfl, ho0, hb⟩; refine ⟨_, rfl, ?_⟩; have n0_ := Aside0.mk (Kd.R_lower ho0 (below_size (by repeat (first | (with_reducible first | exact HB.out | apply below_alloc | apply pw_below_drewN | apply below_drew1 | refine below_set ?_ GE119.out) | exact HB.out)))); have n1_ := Aside0.mk (blk_below (g := gb119) (o := .cells #[.bool t117, .bool t118] 27 (0, 0)) (by (with_reducible repeat (first | refine blk_drewN ?_ _ | refine blk_drew ?_ | refine blk_alloc ?_ _)); exact BK119.out) hb); have n2_ := Aside0.mk (below_step (by repeat (first | (with_reducible first | exact HB.out | apply below_alloc | apply pw_below_drewN | apply below_drew1 | refine below_set ?_ GE119.out) | exact HB.out)) hb); clear BK119; clear HB; have HO150 := n0_; have BK119 := n1_; have HB := n2_; clear n0_ n1_ n2_; (try clear hb); (try clear hb2); (try clear hk); (try clear hi); (try clear ho0); have hcz92_0 : w91.cell? ⟨gb119, 0, none⟩ = some (.bool t117) := (blk_cell BK119.out 0).trans rfl; have hcz92_1 : w91.cell? ⟨gb119, 1, none⟩ = some (.bool t118) := (blk_cell BK119.out 1).trans rfl; have hfz92_0 := blk_frozen BK119.out 0; have hfz92_1 := blk_frozen BK119.out 1; obtain ⟨Ao93, co93, eo93⟩ := Kd.R_slice HO150.out; subst eo93) | ((with_reducible refine gate_callee (f := 9) rfl ?_); refine goesL_ (some 165) rfl rfl Tryd.func9 (by kernel_rfl) rfl #[.agg #[.bool t117, .bool t118], .slice Ao93 t148.length co93] rfl (by (try simp only [List.map_toArray, List.map_cons, List.map_nil]); first | done | rfl | (simp only [List.length_drop, List.length_take]; rfl)) ?_; (with_reducible refine (dynrec_PutNotes.calls t117 t118 _ _ t148 t152 true _ ?side1 ?side2 A88.out).mono ?_); (case side1 => repeat (first | exact (Kd.R_reads' HO150.out).2.2 | (with_reducible refine Kd.C_alloc ?_ _) | (with_reducible refine Kd.C_drewN ?_ _) | (with_reducible refine Kd.C_drew ?_))); (case side2 => exact (Kd.R_reads' HO150.out).2.1); rintro e w94 ⟨rfl, hb⟩; refine ⟨_, rfl, ?_⟩; have n0_ := Aside0.mk (Kd.R_below (by (with_reducible repeat (first | apply Kd.R_alloc | apply Kd.R_drewN | apply Kd.R_drew)); exact HO150.out) hb); have n1_ := Aside0.mk (blk_below (g := gb119) (o := .cells #[.bool t117, .bool t118] 27 (0, 0)) (by (with_reducible repeat (first | refine blk_drewN ?_ _ | refine blk_drew ?_ | refine blk_alloc ?_ _)); exact BK119.out) hb); have n2_ := Aside0.mk (below_step (by repeat (first | (with_reducible first | exact HB.out | apply below_alloc | apply pw_below_drewN | apply below_drew1 | refine below_set ?_ GE119.out) | exact HB.out)) hb); clear HO150; clear BK119; clear HB; have HO150 := n0_; have BK119 := n1_; have HB := n2_; clear n0_ n1_ n2_; (try clear hb); (try clear hb2); (try clear hk); (try clear hi)))
                          go_ret
                          exact ⟨by first | rfl | (simp [errW_none, errW_some] <;> rfl) | (simp only [← hji83]; first | rfl | (simp [errW_none, errW_some] <;> rfl)) | (simp [*, errW_none, errW_some] <;> rfl), by repeat (first | (with_reducible first | exact HB.out | apply below_alloc | apply pw_below_drewN | apply below_drew1 | refine below_set ?_ GE119.out) | exact HB.out)⟩
                        · replace c89 := Bool.eq_false_iff.mpr c89
                          subst c89
                          have H1 : (some false) = some r := by rw [if_neg (show ¬ (false = true) by decide)] at H; exact H
                          clear H
                          have H := H1
                          clear H1
                          obtain rfl := Option.some.inj H
                          have hcz95_0 : wc.cell? ⟨gb119, 0, none⟩ = some (.bool t117) := (blk_cell BK119.out 0).trans rfl
                          have hcz95_1 : wc.cell? ⟨gb119, 1, none⟩ = some (.bool t118) := (blk_cell BK119.out 1).trans rfl
                          have hfz95_0 := blk_frozen BK119.out 0
                          have hfz95_1 := blk_frozen BK119.out 1
                          go_wp2_with (first | ((with_reducible refine gate_callee (f := 11) rfl ?_); refine goesL_ (some 146) rfl rfl Tryd.func11 (by kernel_rfl) rfl #[.agg #[.bool t117, .bool t118], .string (a2.extract 0 ((ji83) : Int).toNat)] rfl (by (try simp only [List.map_toArray, List.map_cons, List.map_nil]); first | done | (simp only [hji83]; rfl) | rfl | (simp only [List.length_drop, List.length_take]; rfl)) ?_; (with_reducible refine (dynrec_Notes.calls t117 t118 (a2.extract 0 ((ji83) : Int).toNat) t148 t151 _ A86.out).mono ?_); rintro e w96 ⟨v149, rfl, ho0, hb⟩; refine ⟨_, rfl, ?_⟩; have n0_ := Aside0.mk (Kd.R_lower ho0 (below_size (by repeat (first | (with_reducible first | exact HB.out | apply below_alloc | apply pw_below_drewN | apply below_drew1 | refine below_set ?_ GE119.out) | exact HB.out)))); have n1_ := Aside0.mk (blk_below (g := gb119) (o := .cells #[.bool t117, .bool t118] 27 (0, 0)) (by (with_reducible repeat (first | refine blk_drewN ?_ _ | refine blk_drew ?_ | refine blk_alloc ?_ _)); exact BK119.out) hb); have n2_ := Aside0.mk (below_step (by repeat (first | (with_reducible first | exact HB.out | apply below_alloc | apply pw_below_drewN | apply below_drew1 | refine below_set ?_ GE119.out) | exact HB.out)) hb); clear BK119; clear HB; have HO150 := n0_; have BK119 := n1_; have HB := n2_; clear n0_ n1_ n2_; (try clear hb); (try clear hb2); (try clear hk); (try clear hi); (try clear ho0); have hcz97_0 : w96.cell? ⟨gb119, 0, none⟩ = some (.bool t117) := (blk_cell BK119.out 0).trans rfl; have hcz97_1 : w96.cell? ⟨gb119, 1, none⟩ = some (.bool t118) := (blk_cell BK119.out 1).trans rfl; have hfz97_0 := blk_frozen BK119.out 0; have hfz97_1 := blk_frozen BK119.out 1; obtain ⟨Ao98, co98, eo98⟩ := Kd.R_slice HO150.out; subst eo98) | ((with_reducible refine gate_callee (f := 9) rfl ?_); refine goesL_ (some 165) rfl rfl Tryd.func9 (by kernel_rfl) rfl #[.agg #[.bool t117, .bool t118], .slice Ao98 t148.length co98] rfl (by (try simp only [List.map_toArray, List.map_cons, List.map_nil]); first | done | rfl | (simp only [List.length_drop, List.length_take]; rfl)) ?_; (with_reducible refine (dynrec_PutNotes.calls t117 t118 _ _ t148 t152 false _ ?side1 ?side2 A88.out).mono ?_); (case side1 => repeat (first | exact (Kd.R_reads' HO150.out).2.2 | (with_reducible refine Kd.C_alloc ?_ _) | (with_reducible refine Kd.C_drewN ?_ _) | (with_reducible refine Kd.C_drew ?_))); (case side2 => exact (Kd.R_reads' HO150.out).2.1); rintro e w99 ⟨rfl, hb⟩; refine ⟨_, rfl, ?_⟩; have n0_ := Aside0.mk (Kd.R_below (by (with_reducible repeat (first | apply Kd.R_alloc | apply Kd.R_drewN | apply Kd.R_drew)); exact HO150.out) hb); have n1_ := Aside0.mk (blk_below (g := gb119) (o := .cells #[.bool t117, .bool t118] 27 (0, 0)) (by (with_reducible repeat (first | refine blk_drewN ?_ _ | refine blk_drew ?_ | refine blk_alloc ?_ _)); exact BK119.out) hb); have n2_ := Aside0.mk (below_step (by repeat (first | (with_reducible first | exact HB.out | apply below_alloc | apply pw_below_drewN | apply below_drew1 | refine below_set ?_ GE119.out) | exact HB.out)) hb); clear HO150; clear BK119; clear HB; have HO150 := n0_; have BK119 := n1_; have HB := n2_; clear n0_ n1_ n2_; (try clear hb); (try clear hb2); (try clear hk); (try clear hi)))
                          go_ret
                          exact ⟨by first | rfl | (simp [errW_none, errW_some] <;> rfl) | (simp only [← hji83]; first | rfl | (simp [errW_none, errW_some] <;> rfl)) | (simp [*, errW_none, errW_some] <;> rfl), by repeat (first | (with_reducible first | exact HB.out | apply below_alloc | apply pw_below_drewN | apply below_drew1 | refine below_set ?_ GE119.out) | exact HB.out)⟩
                      · rw [if_neg c87] at H
                        have c87b0 : (t151 == 0) = false := beq_eq_false_iff_ne.mpr c87
                        have c87b1 : (t151 != 0) = true := bne_iff_ne.mpr c87
                        by_cases c100 : t151 = 3
                        · rw [if_pos c100] at H
                          have c100b0 : (t151 == 3) = true := beq_iff_eq.mpr c100
                          have c100b1 : (t151 != 3) = false := bne_eq_false_iff_eq.mpr c100
                          clear c100
                          obtain rfl := Option.some.inj H
                          have hcz101_0 : wc.cell? ⟨gb119, 0, none⟩ = some (.bool t117) := (blk_cell BK119.out 0).trans rfl
                          have hcz101_1 : wc.cell? ⟨gb119, 1, none⟩ = some (.bool t118) := (blk_cell BK119.out 1).trans rfl
                          have hfz101_0 := blk_frozen BK119.out 0
                          have hfz101_1 := blk_frozen BK119.out 1
                          go_wp2_with (first | ((with_reducible refine gate_callee (f := 11) rfl ?_); refine goesL_ (some 146) rfl rfl Tryd.func11 (by kernel_rfl) rfl #[.agg #[.bool t117, .bool t118], .string (a2.extract 0 ((ji83) : Int).toNat)] rfl (by (try simp only [List.map_toArray, List.map_cons, List.map_nil]); first | done | (simp only [hji83]; rfl) | rfl | (simp only [List.length_drop, List.length_take]; rfl)) ?_; (with_reducible refine (dynrec_Notes.calls t117 t118 (a2.extract 0 ((ji83) : Int).toNat) t148 t151 _ A86.out).mono ?_); rintro e w102 ⟨v149, rfl, ho0, hb⟩; refine ⟨_, rfl, ?_⟩; have n0_ := Aside0.mk (Kd.R_lower ho0 (below_size (by repeat (first | (with_reducible first | exact HB.out | apply below_alloc | apply pw_below_drewN | apply below_drew1 | refine below_set ?_ GE119.out) | exact HB.out)))); have n1_ := Aside0.mk (blk_below (g := gb119) (o := .cells #[.bool t117, .bool t118] 27 (0, 0)) (by (with_reducible repeat (first | refine blk_drewN ?_ _ | refine blk_drew ?_ | refine blk_alloc ?_ _)); exact BK119.out) hb); have n2_ := Aside0.mk (below_step (by repeat (first | (with_reducible first | exact HB.out | apply below_alloc | apply pw_below_drewN | apply below_drew1 | refine below_set ?_ GE119.out) | exact HB.out)) hb); clear BK119; clear HB; have HO150 := n0_; have BK119 := n1_; have HB := n2_; clear n0_ n1_ n2_; (try clear hb); (try clear hb2); (try clear hk); (try clear hi); (try clear ho0); obtain ⟨Ao103, co103, eo103⟩ := Kd.R_slice HO150.out; subst eo103))
                          go_ret
                          exact ⟨by first | rfl | (simp [errW_none, errW_some] <;> rfl) | (simp only [← hji83]; first | rfl | (simp [errW_none, errW_some] <;> rfl)) | (simp [*, errW_none, errW_some] <;> rfl), by repeat (first | (with_reducible first | exact HB.out | apply below_alloc | apply pw_below_drewN | apply below_drew1 | refine below_set ?_ GE119.out) | exact HB.out)⟩
                        · rw [if_neg c100] at H
                          have c100b0 : (t151 == 3) = false := beq_eq_false_iff_ne.mpr c100
                          have c100b1 : (t151 != 3) = true := bne_iff_ne.mpr c100
                          by_cases c104 : t151 = 6
                          · rw [if_pos c104] at H
                            have c104b0 : (t151 == 6) = true := beq_iff_eq.mpr c104
                            have c104b1 : (t151 != 6) = false := bne_eq_false_iff_eq.mpr c104
                            clear c104
                            obtain rfl := Option.some.inj H
                            have hcz105_0 : wc.cell? ⟨gb119, 0, none⟩ = some (.bool t117) := (blk_cell BK119.out 0).trans rfl
                            have hcz105_1 : wc.cell? ⟨gb119, 1, none⟩ = some (.bool t118) := (blk_cell BK119.out 1).trans rfl
                            have hfz105_0 := blk_frozen BK119.out 0
                            have hfz105_1 := blk_frozen BK119.out 1
                            go_wp2_with (first | ((with_reducible refine gate_callee (f := 11) rfl ?_); refine goesL_ (some 146) rfl rfl Tryd.func11 (by kernel_rfl) rfl #[.agg #[.bool t117, .bool t118], .string (a2.extract 0 ((ji83) : Int).toNat)] rfl (by (try simp only [List.map_toArray, List.map_cons, List.map_nil]); first | done | (simp only [hji83]; rfl) | rfl | (simp only [List.length_drop, List.length_take]; rfl)) ?_; (with_reducible refine (dynrec_Notes.calls t117 t118 (a2.extract 0 ((ji83) : Int).toNat) t148 t151 _ A86.out).mono ?_); rintro e w106 ⟨v149, rfl, ho0, hb⟩; refine ⟨_, rfl, ?_⟩; have n0_ := Aside0.mk (Kd.R_lower ho0 (below_size (by repeat (first | (with_reducible first | exact HB.out | apply below_alloc | apply pw_below_drewN | apply below_drew1 | refine below_set ?_ GE119.out) | exact HB.out)))); have n1_ := Aside0.mk (blk_below (g := gb119) (o := .cells #[.bool t117, .bool t118] 27 (0, 0)) (by (with_reducible repeat (first | refine blk_drewN ?_ _ | refine blk_drew ?_ | refine blk_alloc ?_ _)); exact BK119.out) hb); have n2_ := Aside0.mk (below_step (by repeat (first | (with_reducible first | exact HB.out | apply below_alloc | apply pw_below_drewN | apply below_drew1 | refine below_set ?_ GE119.out) | exact HB.out)) hb); clear BK119; clear HB; have HO150 := n0_; have BK119 := n1_; have HB := n2_; clear n0_ n1_ n2_; (try clear hb); (try clear hb2); (try clear hk); (try clear hi); (try clear ho0); obtain ⟨Ao107, co107, eo107⟩ := Kd.R_slice HO150.out; subst eo107))
                            go_ret
                            exact ⟨by first | rfl | (simp [errW_none, errW_some] <;> rfl) | (simp only [← hji83]; first | rfl | (simp [errW_none, errW_some] <;> rfl)) | (simp [*, errW_none, errW_some] <;> rfl), by repeat (first | (with_reducible first | exact HB.out | apply below_alloc | apply pw_below_drewN | apply below_drew1 | refine below_set ?_ GE119.out) | exact HB.out)⟩
                          · rw [if_neg c104] at H
                            have c104b0 : (t151 == 6) = false := beq_eq_false_iff_ne.mpr c104
                            have c104b1 : (t151 != 6) = true := bne_iff_ne.mpr c104
                            obtain rfl := Option.some.inj H
                            have hcz108_0 : wc.cell? ⟨gb119, 0, none⟩ = some (.bool t117) := (blk_cell BK119.out 0).trans rfl
                            have hcz108_1 : wc.cell? ⟨gb119, 1, none⟩ = some (.bool t118) := (blk_cell BK119.out 1).trans rfl
                            have hfz108_0 := blk_frozen BK119.out 0
                            have hfz108_1 := blk_frozen BK119.out 1
                            go_wp2_with (first | ((with_reducible refine gate_callee (f := 11) rfl ?_); refine goesL_ (some 146) rfl rfl Tryd.func11 (by kernel_rfl) rfl #[.agg #[.bool t117, .bool t118], .string (a2.extract 0 ((ji83) : Int).toNat)] rfl (by (try simp only [List.map_toArray, List.map_cons, List.map_nil]); first | done | (simp only [hji83]; rfl) | rfl | (simp only [List.length_drop, List.length_take]; rfl)) ?_; (with_reducible refine (dynrec_Notes.calls t117 t118 (a2.extract 0 ((ji83) : Int).toNat) t148 t151 _ A86.out).mono ?_); rintro e w109 ⟨v149, rfl, ho0, hb⟩; refine ⟨_, rfl, ?_⟩; have n0_ := Aside0.mk (Kd.R_lower ho0 (below_size (by repeat (first | (with_reducible first | exact HB.out | apply below_alloc | apply pw_below_drewN | apply below_drew1 | refine below_set ?_ GE119.out) | exact HB.out)))); have n1_ := Aside0.mk (blk_below (g := gb119) (o := .cells #[.bool t117, .bool t118] 27 (0, 0)) (by (with_reducible repeat (first | refine blk_drewN ?_ _ | refine blk_drew ?_ | refine blk_alloc ?_ _)); exact BK119.out) hb); have n2_ := Aside0.mk (below_step (by repeat (first | (with_reducible first | exact HB.out | apply below_alloc | apply pw_below_drewN | apply below_drew1 | refine below_set ?_ GE119.out) | exact HB.out)) hb); clear BK119; clear HB; have HO150 := n0_; have BK119 := n1_; have HB := n2_; clear n0_ n1_ n2_; (try clear hb); (try clear hb2); (try clear hk); (try clear hi); (try clear ho0)))
                            go_ret
                            exact ⟨by first | rfl | (simp [errW_none, errW_some] <;> rfl) | (simp only [← hji83]; first | rfl | (simp [errW_none, errW_some] <;> rfl)) | (simp [*, errW_none, errW_some] <;> rfl), by repeat (first | (with_reducible first | exact HB.out | apply below_alloc | apply pw_below_drewN | apply below_drew1 | refine below_set ?_ GE119.out) | exact HB.out)⟩
                    · rw [if_neg c85] at H
                      exact absurd H (by simp)
                  · rw [if_neg c84] at H
                    exact absurd H (by simp)
  · replace c5 := Bool.eq_false_iff.mpr c5
    subst c5
    have H1 : (some false) = some r := by rw [if_neg (show ¬ (false = true) by decide)] at H; exact H
    clear H
    have H := H1
    clear H1
    obtain rfl := Option.some.inj H
    go_enter Tryd.func3, Tryd.ntmps3
    go_wp2_with (first | ((with_reducible refine gate_callee (f := 7) rfl ?_); refine goesL_ (some 25) rfl rfl Tryd.func7 (by kernel_rfl) rfl #[] rfl (by (try simp only [List.map_toArray, List.map_cons, List.map_nil]); first | done | rfl | (simp only [List.length_drop, List.length_take]; rfl)) ?_; (with_reducible refine (graverlaw10_speaks.calls  false _ A4.out).mono ?_); rintro e w110 ⟨rfl, hb⟩; refine ⟨_, rfl, ?_⟩; have n0_ := Aside0.mk (below_step (by repeat (first | (with_reducible first | exact HB.out | apply below_alloc | apply pw_below_drewN | apply below_drew1) | exact HB.out)) hb); clear HB; have HB := n0_; clear n0_; (try clear hb); (try clear hb2); (try clear hk); (try clear hi)))
    go_ret
    exact ⟨by first | rfl | (simp [errW_none, errW_some] <;> rfl) | (simp [*, errW_none, errW_some] <;> rfl), by repeat (first | (with_reducible first | exact HB.out | apply below_alloc | apply pw_below_drewN | apply below_drew1) | exact HB.out)⟩

end Go.Proofs.YtcfbdnlbgcoicaaDoorX.Notes

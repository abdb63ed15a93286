-- PRINTED by print.py (a twelfth state) out of the translation. Not trusted: Lean checks it.
import Derived.Test.YtolgilamchadfaaDoorXTxx0
import Derived.Test.YtolgilamchadfaaDoorXTxx1
namespace Go.Proofs.YtolgilamchadfaaDoorX.Tx
open Go.RowKit Go.Proofs.YtolgilamchadfaaDoorW.PrintWords Go.Proofs.YtolgilamchadfaaDoorW.PrintLast Go.Proofs.YtolgilamchadfaaDoorW.PrintMore
attribute [local go_sem] max2_int min2_int max_two min_two max_three min_three max_four min_four   -- for this text's walks alone
set_option linter.unusedVariables false
set_option linter.unusedSimpArgs false
set_option maxRecDepth 20000

/-! ### graverlaw03_StrtabTexts: function 4 -/
mutual
def graverlaw03_StrtabTexts.j0 : Nat → ByteArray → ByteArray → Bool → ByteArray → Bool → Bool → Option (Bool)
  | 0, _, _, _, _, _, _ => none
  | k + 1, x0, x5, x6, x7, x8, x9 => (strtab_All.f k x0).bind fun t127 => (if x5.toList = x7.toList then (if (x6 != x8) = true then (graverlaw03_StrtabTexts.j1 k x0 x9 t127 true) else ((strtab_Right.f x0).bind fun t130 => (graverlaw03_StrtabTexts.j1 k x0 x9 t127 (t130 != x9)))) else (graverlaw03_StrtabTexts.j1 k x0 x9 t127 true))
def graverlaw03_StrtabTexts.j1 : Nat → ByteArray → Bool → List ByteArray → Bool → Option (Bool)
  | 0, _, _, _, _ => none
  | k + 1, x0, x9, x10, x62 => if x62 = true then (some false) else (if x9 = true then (graverlaw03_StrtabTexts.j2 k x0 x10 (x0.toList == ([] : List UInt8))) else (graverlaw03_StrtabTexts.j2 k x0 x10 true))
def graverlaw03_StrtabTexts.j2 : Nat → ByteArray → List ByteArray → Bool → Option (Bool)
  | 0, _, _, _ => none
  | k + 1, x0, x10, x68 => if x68 = true then (some ((x10.length : Int) == 0)) else (graverlaw03_StrtabTexts.l0 k x0 x10 (⟨#[]⟩ : ByteArray) 0)
def graverlaw03_StrtabTexts.l0 : Nat → ByteArray → List ByteArray → ByteArray → Int → Option (Bool)
  | 0, _, _, _, _ => none
  | k + 1, x0, x10, x11, x12 => if x12 < (x10.length : Int) then (if 0 ≤ x12 then (if (rdOf ByteArray.empty x10 x12).size + 1 ≤ 9223372036854775807 then (if x11.size + ((rdOf ByteArray.empty x10 x12) ++ (⟨#[0]⟩ : ByteArray)).size ≤ 9223372036854775807 then (graverlaw03_StrtabTexts.l0 k x0 x10 (x11 ++ ((rdOf ByteArray.empty x10 x12) ++ (⟨#[0]⟩ : ByteArray))) (wrap64 (x12 + 1))) else (none)) else (none)) else (none)) else (some (x11.toList == x0.toList))
end
def graverlaw03_StrtabTexts.f (k : Nat) (a0 : ByteArray) (a1 : Int) : Option (Bool) := (graverlaw03_speaks.f).bind fun t122 => (if t122 = true then (if 0 ≤ (mn (a0.size : Int) 300) then (if (mn (a0.size : Int) 300) ≤ (a0.size : Int) then ((strtab_Text.f (a0.extract 0 ((mn (a0.size : Int) 300) : Int).toNat) a1).bind fun bt123 => ((graverref03_Text.f k (a0.extract 0 ((mn (a0.size : Int) 300) : Int).toNat) a1).bind fun bt125 => (if (a0.extract 0 ((mn (a0.size : Int) 300) : Int).toNat).toList = ([] : List UInt8) then (graverlaw03_StrtabTexts.j0 k (a0.extract 0 ((mn (a0.size : Int) 300) : Int).toNat) bt123.1 bt123.2 bt125.1 bt125.2 true) else (if 0 < ((a0.extract 0 ((mn (a0.size : Int) 300) : Int).toNat).size : Int) then (if (bt (a0.extract 0 ((mn (a0.size : Int) 300) : Int).toNat) 0) = 0 then (if 0 ≤ (wrap64 (((a0.extract 0 ((mn (a0.size : Int) 300) : Int).toNat).size : Int) - 1)) then (if (wrap64 (((a0.extract 0 ((mn (a0.size : Int) 300) : Int).toNat).size : Int) - 1)) < ((a0.extract 0 ((mn (a0.size : Int) 300) : Int).toNat).size : Int) then (graverlaw03_StrtabTexts.j0 k (a0.extract 0 ((mn (a0.size : Int) 300) : Int).toNat) bt123.1 bt123.2 bt125.1 bt125.2 ((bt (a0.extract 0 ((mn (a0.size : Int) 300) : Int).toNat) (wrap64 (((a0.extract 0 ((mn (a0.size : Int) 300) : Int).toNat).size : Int) - 1))) == 0)) else (none)) else (none)) else (graverlaw03_StrtabTexts.j0 k (a0.extract 0 ((mn (a0.size : Int) 300) : Int).toNat) bt123.1 bt123.2 bt125.1 bt125.2 false)) else (none))))) else (none)) else (none)) else (some false))
theorem graverlaw03_StrtabTexts.mono_l : ∀ k, (∀ y0 y1 y2 y3 y4 y5, LeO (graverlaw03_StrtabTexts.j0 k y0 y1 y2 y3 y4 y5) (graverlaw03_StrtabTexts.j0 (k + 1) y0 y1 y2 y3 y4 y5)) ∧ (∀ y0 y1 y2 y3, LeO (graverlaw03_StrtabTexts.j1 k y0 y1 y2 y3) (graverlaw03_StrtabTexts.j1 (k + 1) y0 y1 y2 y3)) ∧ (∀ y0 y1 y2, LeO (graverlaw03_StrtabTexts.j2 k y0 y1 y2) (graverlaw03_StrtabTexts.j2 (k + 1) y0 y1 y2)) ∧ (∀ y0 y1 y2 y3, LeO (graverlaw03_StrtabTexts.l0 k y0 y1 y2 y3) (graverlaw03_StrtabTexts.l0 (k + 1) y0 y1 y2 y3))
  | 0 => ⟨fun _ _ _ _ _ _ r h => by simp [graverlaw03_StrtabTexts.j0] at h, fun _ _ _ _ r h => by simp [graverlaw03_StrtabTexts.j1] at h, fun _ _ _ r h => by simp [graverlaw03_StrtabTexts.j2] at h, fun _ _ _ _ r h => by simp [graverlaw03_StrtabTexts.l0] at h⟩
  | k + 1 => by
    obtain ⟨ih0, ih1, ih2, ih3⟩ := graverlaw03_StrtabTexts.mono_l k
    refine ⟨?_, ?_, ?_, ?_⟩
    · intro y0 y1 y2 y3 y4 y5
      unfold graverlaw03_StrtabTexts.j0
      repeat' first
      | (with_reducible exact ih0 _ _ _ _ _ _)
      | (with_reducible exact ih1 _ _ _ _)
      | (with_reducible exact ih2 _ _ _)
      | (with_reducible exact ih3 _ _ _ _)
      | (with_reducible exact graverref03_Text.mono _ _ _)
      | (with_reducible exact strtab_All.mono _ _)
      | (with_reducible exact LeO.refl _)
      | (with_reducible exact LeO.none _)
      | (with_reducible refine LeO.ite ?_ ?_)
      | (with_reducible refine LeO.bind ?_ (fun _ => ?_))
      | exact ih0 _ _ _ _ _ _
      | exact ih1 _ _ _ _
      | exact ih2 _ _ _
      | exact ih3 _ _ _ _
      | exact graverref03_Text.mono _ _ _
      | exact strtab_All.mono _ _
      | exact LeO.none _
      | refine LeO.ite ?_ ?_
      | refine LeO.bind ?_ (fun _ => ?_)
    · intro y0 y1 y2 y3
      unfold graverlaw03_StrtabTexts.j1
      repeat' first
      | (with_reducible exact ih0 _ _ _ _ _ _)
      | (with_reducible exact ih1 _ _ _ _)
      | (with_reducible exact ih2 _ _ _)
      | (with_reducible exact ih3 _ _ _ _)
      | (with_reducible exact graverref03_Text.mono _ _ _)
      | (with_reducible exact strtab_All.mono _ _)
      | (with_reducible exact LeO.refl _)
      | (with_reducible exact LeO.none _)
      | (with_reducible refine LeO.ite ?_ ?_)
      | (with_reducible refine LeO.bind ?_ (fun _ => ?_))
      | exact ih0 _ _ _ _ _ _
      | exact ih1 _ _ _ _
      | exact ih2 _ _ _
      | exact ih3 _ _ _ _
      | exact graverref03_Text.mono _ _ _
      | exact strtab_All.mono _ _
      | exact LeO.none _
      | refine LeO.ite ?_ ?_
      | refine LeO.bind ?_ (fun _ => ?_)
    · intro y0 y1 y2
      unfold graverlaw03_StrtabTexts.j2
      repeat' first
      | (with_reducible exact ih0 _ _ _ _ _ _)
      | (with_reducible exact ih1 _ _ _ _)
      | (with_reducible exact ih2 _ _ _)
      | (with_reducible exact ih3 _ _ _ _)
      | (with_reducible exact graverref03_Text.mono _ _ _)
      | (with_reducible exact strtab_All.mono _ _)
      | (with_reducible exact LeO.refl _)
      | (with_reducible exact LeO.none _)
      | (with_reducible refine LeO.ite ?_ ?_)
      | (with_reducible refine LeO.bind ?_ (fun _ => ?_))
      | exact ih0 _ _ _ _ _ _
      | exact ih1 _ _ _ _
      | exact ih2 _ _ _
      | exact ih3 _ _ _ _
      | exact graverref03_Text.mono _ _ _
      | exact strtab_All.mono _ _
      | exact LeO.none _
      | refine LeO.ite ?_ ?_
      | refine LeO.bind ?_ (fun _ => ?_)
    · intro y0 y1 y2 y3
      unfold graverlaw03_StrtabTexts.l0
      repeat' first
      | (with_reducible exact ih0 _ _ _ _ _ _)
      | (with_reducible exact ih1 _ _ _ _)
      | (with_reducible exact ih2 _ _ _)
      | (with_reducible exact ih3 _ _ _ _)
      | (with_reducible exact graverref03_Text.mono _ _ _)
      | (with_reducible exact strtab_All.mono _ _)
      | (with_reducible exact LeO.refl _)
      | (with_reducible exact LeO.none _)
      | (with_reducible refine LeO.ite ?_ ?_)
      | (with_reducible refine LeO.bind ?_ (fun _ => ?_))
      | exact ih0 _ _ _ _ _ _
      | exact ih1 _ _ _ _
      | exact ih2 _ _ _
      | exact ih3 _ _ _ _
      | exact graverref03_Text.mono _ _ _
      | exact strtab_All.mono _ _
      | exact LeO.none _
      | refine LeO.ite ?_ ?_
      | refine LeO.bind ?_ (fun _ => ?_)
theorem graverlaw03_StrtabTexts.mono : ∀ a0 a1 k, LeO (graverlaw03_StrtabTexts.f k a0 a1) (graverlaw03_StrtabTexts.f (k + 1) a0 a1) := by
  intro a0 a1 k
  obtain ⟨ih0, ih1, ih2, ih3⟩ := graverlaw03_StrtabTexts.mono_l k
  unfold graverlaw03_StrtabTexts.f
  repeat' first
      | (with_reducible exact ih0 _ _ _ _ _ _)
      | (with_reducible exact ih1 _ _ _ _)
      | (with_reducible exact ih2 _ _ _)
      | (with_reducible exact ih3 _ _ _ _)
      | (with_reducible exact graverref03_Text.mono _ _ _)
      | (with_reducible exact strtab_All.mono _ _)
      | (with_reducible exact LeO.refl _)
      | (with_reducible exact LeO.none _)
      | (with_reducible refine LeO.ite ?_ ?_)
      | (with_reducible refine LeO.bind ?_ (fun _ => ?_))
      | exact ih0 _ _ _ _ _ _
      | exact ih1 _ _ _ _
      | exact ih2 _ _ _
      | exact ih3 _ _ _ _
      | exact graverref03_Text.mono _ _ _
      | exact strtab_All.mono _ _
      | exact LeO.none _
      | refine LeO.ite ?_ ?_
      | refine LeO.bind ?_ (fun _ => ?_)
set_option maxHeartbeats 8000000 in
set_option maxRecDepth 100000 in
theorem graverlaw03_StrtabTexts.calls (k : Nat) (a0 : ByteArray) (a1 : Int) (r : Bool) (w : World) (hT : Go.Proofs.YtolgilamchadfaaDoor.MaxAt w) (h : graverlaw03_StrtabTexts.f k a0 a1 = some r) :
    Calls Tryd.prog 4 #[.string a0, .int .u64 a1] w fun e w' => e = .returned (.bool r) ∧ Below w.heap.size w w' := by
  have HT := Aside0.mk hT
  clear hT
  have HB := Aside0.mk (Below.refl w.heap.size w)
  have H : ((graverlaw03_speaks.f).bind fun t122 => (if t122 = true then (if 0 ≤ (mn (a0.size : Int) 300) then (if (mn (a0.size : Int) 300) ≤ (a0.size : Int) then ((strtab_Text.f (a0.extract 0 ((mn (a0.size : Int) 300) : Int).toNat) a1).bind fun bt123 => ((graverref03_Text.f k (a0.extract 0 ((mn (a0.size : Int) 300) : Int).toNat) a1).bind fun bt125 => (if (a0.extract 0 ((mn (a0.size : Int) 300) : Int).toNat).toList = ([] : List UInt8) then (graverlaw03_StrtabTexts.j0 k (a0.extract 0 ((mn (a0.size : Int) 300) : Int).toNat) bt123.1 bt123.2 bt125.1 bt125.2 true) else (if 0 < ((a0.extract 0 ((mn (a0.size : Int) 300) : Int).toNat).size : Int) then (if (bt (a0.extract 0 ((mn (a0.size : Int) 300) : Int).toNat) 0) = 0 then (if 0 ≤ (wrap64 (((a0.extract 0 ((mn (a0.size : Int) 300) : Int).toNat).size : Int) - 1)) then (if (wrap64 (((a0.extract 0 ((mn (a0.size : Int) 300) : Int).toNat).size : Int) - 1)) < ((a0.extract 0 ((mn (a0.size : Int) 300) : Int).toNat).size : Int) then (graverlaw03_StrtabTexts.j0 k (a0.extract 0 ((mn (a0.size : Int) 300) : Int).toNat) bt123.1 bt123.2 bt125.1 bt125.2 ((bt (a0.extract 0 ((mn (a0.size : Int) 300) : Int).toNat) (wrap64 (((a0.extract 0 ((mn (a0.size : Int) 300) : Int).toNat).size : Int) - 1))) == 0)) else (none)) else (none)) else (graverlaw03_StrtabTexts.j0 k (a0.extract 0 ((mn (a0.size : Int) 300) : Int).toNat) bt123.1 bt123.2 bt125.1 bt125.2 false)) else (none))))) else (none)) else (none)) else (some false))) = some r := h
  clear h
  replace H := Option.bind_eq_some_iff.mp H
  obtain ⟨t122, A30, H⟩ := H
  replace H : (if t122 = true then (if 0 ≤ (mn (a0.size : Int) 300) then (if (mn (a0.size : Int) 300) ≤ (a0.size : Int) then ((strtab_Text.f (a0.extract 0 ((mn (a0.size : Int) 300) : Int).toNat) a1).bind fun bt123 => ((graverref03_Text.f k (a0.extract 0 ((mn (a0.size : Int) 300) : Int).toNat) a1).bind fun bt125 => (if (a0.extract 0 ((mn (a0.size : Int) 300) : Int).toNat).toList = ([] : List UInt8) then (graverlaw03_StrtabTexts.j0 k (a0.extract 0 ((mn (a0.size : Int) 300) : Int).toNat) bt123.1 bt123.2 bt125.1 bt125.2 true) else (if 0 < ((a0.extract 0 ((mn (a0.size : Int) 300) : Int).toNat).size : Int) then (if (bt (a0.extract 0 ((mn (a0.size : Int) 300) : Int).toNat) 0) = 0 then (if 0 ≤ (wrap64 (((a0.extract 0 ((mn (a0.size : Int) 300) : Int).toNat).size : Int) - 1)) then (if (wrap64 (((a0.extract 0 ((mn (a0.size : Int) 300) : Int).toNat).size : Int) - 1)) < ((a0.extract 0 ((mn (a0.size : Int) 300) : Int).toNat).size : Int) then (graverlaw03_StrtabTexts.j0 k (a0.extract 0 ((mn (a0.size : Int) 300) : Int).toNat) bt123.1 bt123.2 bt125.1 bt125.2 ((bt (a0.extract 0 ((mn (a0.size : Int) 300) : Int).toNat) (wrap64 (((a0.extract 0 ((mn (a0.size : Int) 300) : Int).toNat).size : Int) - 1))) == 0)) else (none)) else (none)) else (graverlaw03_StrtabTexts.j0 k (a0.extract 0 ((mn (a0.size : Int) 300) : Int).toNat) bt123.1 bt123.2 bt125.1 bt125.2 false)) else (none))))) else (none)) else (none)) else (some false)) = some r := H
  have A3 := Aside0.mk A30
  clear A30
  by_cases c4 : t122 = true
  · subst c4
    have H1 : (if 0 ≤ (mn (a0.size : Int) 300) then (if (mn (a0.size : Int) 300) ≤ (a0.size : Int) then ((strtab_Text.f (a0.extract 0 ((mn (a0.size : Int) 300) : Int).toNat) a1).bind fun bt123 => ((graverref03_Text.f k (a0.extract 0 ((mn (a0.size : Int) 300) : Int).toNat) a1).bind fun bt125 => (if (a0.extract 0 ((mn (a0.size : Int) 300) : Int).toNat).toList = ([] : List UInt8) then (graverlaw03_StrtabTexts.j0 k (a0.extract 0 ((mn (a0.size : Int) 300) : Int).toNat) bt123.1 bt123.2 bt125.1 bt125.2 true) else (if 0 < ((a0.extract 0 ((mn (a0.size : Int) 300) : Int).toNat).size : Int) then (if (bt (a0.extract 0 ((mn (a0.size : Int) 300) : Int).toNat) 0) = 0 then (if 0 ≤ (wrap64 (((a0.extract 0 ((mn (a0.size : Int) 300) : Int).toNat).size : Int) - 1)) then (if (wrap64 (((a0.extract 0 ((mn (a0.size : Int) 300) : Int).toNat).size : Int) - 1)) < ((a0.extract 0 ((mn (a0.size : Int) 300) : Int).toNat).size : Int) then (graverlaw03_StrtabTexts.j0 k (a0.extract 0 ((mn (a0.size : Int) 300) : Int).toNat) bt123.1 bt123.2 bt125.1 bt125.2 ((bt (a0.extract 0 ((mn (a0.size : Int) 300) : Int).toNat) (wrap64 (((a0.extract 0 ((mn (a0.size : Int) 300) : Int).toNat).size : Int) - 1))) == 0)) else (none)) else (none)) else (graverlaw03_StrtabTexts.j0 k (a0.extract 0 ((mn (a0.size : Int) 300) : Int).toNat) bt123.1 bt123.2 bt125.1 bt125.2 false)) else (none))))) else (none)) else (none)) = some r := by rw [if_pos rfl] at H; exact H
    clear H
    have H := H1
    clear H1
    obtain ⟨ji5, hji5⟩ : ∃ j_ : Int, (mn (a0.size : Int) 300) = j_ := ⟨_, rfl⟩
    replace H : (if 0 ≤ (ji5) then (if (ji5) ≤ (a0.size : Int) then ((strtab_Text.f (a0.extract 0 ((ji5) : Int).toNat) a1).bind fun bt123 => ((graverref03_Text.f k (a0.extract 0 ((ji5) : Int).toNat) a1).bind fun bt125 => (if (a0.extract 0 ((ji5) : Int).toNat).toList = ([] : List UInt8) then (graverlaw03_StrtabTexts.j0 k (a0.extract 0 ((ji5) : Int).toNat) bt123.1 bt123.2 bt125.1 bt125.2 true) else (if 0 < ((a0.extract 0 ((ji5) : Int).toNat).size : Int) then (if (bt (a0.extract 0 ((ji5) : Int).toNat) 0) = 0 then (if 0 ≤ (wrap64 (((a0.extract 0 ((ji5) : Int).toNat).size : Int) - 1)) then (if (wrap64 (((a0.extract 0 ((ji5) : Int).toNat).size : Int) - 1)) < ((a0.extract 0 ((ji5) : Int).toNat).size : Int) then (graverlaw03_StrtabTexts.j0 k (a0.extract 0 ((ji5) : Int).toNat) bt123.1 bt123.2 bt125.1 bt125.2 ((bt (a0.extract 0 ((ji5) : Int).toNat) (wrap64 (((a0.extract 0 ((ji5) : Int).toNat).size : Int) - 1))) == 0)) else (none)) else (none)) else (graverlaw03_StrtabTexts.j0 k (a0.extract 0 ((ji5) : Int).toNat) bt123.1 bt123.2 bt125.1 bt125.2 false)) else (none))))) else (none)) else (none)) = some r := by first | (rw [hji5] at H; exact H) | (simp only [hji5] at H ⊢; exact H)
    (try rw [hji5] at A3)
    (try (have hji5h : ji5 ≤ 300 := by (rw [← hji5]; unfold mn; (repeat' split) <;> omega)))
    (try (have hji5g : ji5 ≤ 64 := by omega))
    (try (have hji5l : 0 ≤ ji5 := by (rw [← hji5]; unfold mn; (repeat' split) <;> omega)))
    (try (have hji5m : 0 ≤ ji5 := by omega))
    have hji5_ : (if 300 < (a0.size : Int) then 300 else (a0.size : Int)) = ji5 := hji5
    by_cases c6 : 0 ≤ (ji5)
    · rw [if_pos c6] at H
      have c6b0 := eq_true c6
      have c6b1 : decide (0 ≤ (ji5)) = true := decide_eq_true c6
      clear c6
      by_cases c7 : (ji5) ≤ (a0.size : Int)
      · rw [if_pos c7] at H
        have c7b0 := eq_true c7
        have c7b1 : decide ((ji5) ≤ (a0.size : Int)) = true := decide_eq_true c7
        clear c7
        obtain ⟨xs5, hxs5⟩ : ∃ y_ : ByteArray, (a0.extract 0 ((ji5) : Int).toNat) = y_ := ⟨_, rfl⟩
        rw [hxs5] at H
        replace H := Option.bind_eq_some_iff.mp H
        obtain ⟨⟨t123, t124⟩, A80, H⟩ := H
        replace H : ((graverref03_Text.f k xs5 a1).bind fun bt125 => (if xs5.toList = ([] : List UInt8) then (graverlaw03_StrtabTexts.j0 k xs5 t123 t124 bt125.1 bt125.2 true) else (if 0 < (xs5.size : Int) then (if (bt xs5 0) = 0 then (if 0 ≤ (wrap64 ((xs5.size : Int) - 1)) then (if (wrap64 ((xs5.size : Int) - 1)) < (xs5.size : Int) then (graverlaw03_StrtabTexts.j0 k xs5 t123 t124 bt125.1 bt125.2 ((bt xs5 (wrap64 ((xs5.size : Int) - 1))) == 0)) else (none)) else (none)) else (graverlaw03_StrtabTexts.j0 k xs5 t123 t124 bt125.1 bt125.2 false)) else (none)))) = some r := H
        have A8 := Aside0.mk A80
        clear A80
        replace H := Option.bind_eq_some_iff.mp H
        obtain ⟨⟨t125, t126⟩, A90, H⟩ := H
        replace H : (if xs5.toList = ([] : List UInt8) then (graverlaw03_StrtabTexts.j0 k xs5 t123 t124 t125 t126 true) else (if 0 < (xs5.size : Int) then (if (bt xs5 0) = 0 then (if 0 ≤ (wrap64 ((xs5.size : Int) - 1)) then (if (wrap64 ((xs5.size : Int) - 1)) < (xs5.size : Int) then (graverlaw03_StrtabTexts.j0 k xs5 t123 t124 t125 t126 ((bt xs5 (wrap64 ((xs5.size : Int) - 1))) == 0)) else (none)) else (none)) else (graverlaw03_StrtabTexts.j0 k xs5 t123 t124 t125 t126 false)) else (none))) = some r := H
        have A9 := Aside0.mk A90
        clear A90
        have HC10 := Aside0.mk H
        clear H
        go_enter Tryd.func4, Tryd.ntmps4
        go_upto_region 6 with (first | ((with_reducible refine gate_callee (f := 5) rfl ?_); refine goesL_ (some 13) rfl rfl Tryd.func5 (by kernel_rfl) rfl #[] rfl (by (try simp only [List.map_toArray, List.map_cons, List.map_nil]); first | done | rfl | (simp only [List.length_drop, List.length_take]; rfl)) ?_; (with_reducible refine (graverlaw03_speaks.calls  true _ ?side1 A3.out).mono ?_); (case side1 => exact Go.Proofs.YtolgilamchadfaaDoor.MaxAt.below HT.out (by repeat (first | (with_reducible first | exact HB.out | apply below_alloc | apply pw_below_drewN | apply below_drew1) | exact HB.out))); rintro e w11 ⟨rfl, hb⟩; refine ⟨_, rfl, ?_⟩; have n0_ := Aside0.mk (below_step (by repeat (first | (with_reducible first | exact HB.out | apply below_alloc | apply pw_below_drewN | apply below_drew1) | exact HB.out)) hb); clear HB; have HB := n0_; clear n0_; (try clear hb); (try clear hb2); (try clear hk); (try clear hi)) | ((with_reducible refine gate_callee (f := 8) rfl ?_); refine goesL_ (some 23) rfl rfl Tryd.func8 (by kernel_rfl) rfl #[.string xs5, .int .u64 a1] rfl (by (try simp only [List.map_toArray, List.map_cons, List.map_nil]); first | done | (simp only [hji5]; rfl) | rfl | (simp only [List.length_drop, List.length_take]; rfl)) ?_; (with_reducible refine (strtab_Text.calls xs5 a1 t123 t124 _ ?side1 A8.out).mono ?_); (case side1 => exact Go.Proofs.YtolgilamchadfaaDoor.MaxAt.below HT.out (by repeat (first | (with_reducible first | exact HB.out | apply below_alloc | apply pw_below_drewN | apply below_drew1) | exact HB.out))); rintro e w12 ⟨rfl, hb⟩; refine ⟨_, rfl, ?_⟩; have n0_ := Aside0.mk (below_step (by repeat (first | (with_reducible first | exact HB.out | apply below_alloc | apply pw_below_drewN | apply below_drew1) | exact HB.out)) hb); clear HB; have HB := n0_; clear n0_; (try clear hb); (try clear hb2); (try clear hk); (try clear hi)) | ((with_reducible refine gate_callee (f := 9) rfl ?_); refine goesL_ (some 29) rfl rfl Tryd.func9 (by kernel_rfl) rfl #[.string xs5, .int .u64 a1] rfl (by (try simp only [List.map_toArray, List.map_cons, List.map_nil]); first | done | (simp only [hji5]; rfl) | rfl | (simp only [List.length_drop, List.length_take]; rfl)) ?_; (with_reducible refine (graverref03_Text.calls k xs5 a1 t125 t126 _ A9.out).mono ?_); rintro e w' ⟨rfl, ⟨nd, rfl⟩⟩; refine ⟨_, rfl, ?_⟩))
        (try simp only [Act.put, List.setIfInBounds_toArray, List.set_cons_zero, List.set_cons_succ])
        go_cut [9] (fun v9 wc => ∃ (kq : Nat) (x9_9 : Bool), v9 = .bool x9_9 ∧ Aside0 (graverlaw03_StrtabTexts.j0 kq xs5 t123 t124 t125 t126 x9_9 = some r) ∧ Aside0 (kq ≤ k) ∧ Aside0 (Below w.heap.size w wc))
        case first =>
          have H := HC10.out
          clear HC10
          by_cases c13 : xs5.toList = ([] : List UInt8)
          · rw [if_pos c13] at H
            have c13b0 : (xs5.toList == ([] : List UInt8)) = true := beq_iff_eq.mpr c13
            have c13b1 : (xs5.toList != ([] : List UInt8)) = false := bne_eq_false_iff_eq.mpr c13
            clear c13
            (first | rw [c13b0] | (simp only [i64_w, i32_w]; rw [c13b0]) | skip)
            have H' := Aside0.mk H
            clear H
            go_wp2
            go_meet
            case rel => exact ⟨_, (true), (by first | rfl | (simp; done) | (simp [*]; done)), H', ⟨by first | omega | exact Nat.le_refl _⟩, ⟨by repeat (first | (with_reducible first | exact HB.out | apply below_alloc | apply pw_below_drewN | apply below_drew1) | exact HB.out)⟩⟩
          · rw [if_neg c13] at H
            have c13b0 : (xs5.toList == ([] : List UInt8)) = false := beq_eq_false_iff_ne.mpr c13
            have c13b1 : (xs5.toList != ([] : List UInt8)) = true := bne_iff_ne.mpr c13
            (first | rw [c13b0] | (simp only [i64_w, i32_w]; rw [c13b0]) | skip)
            by_cases c14 : 0 < (xs5.size : Int)
            · rw [if_pos c14] at H
              have c14b0 : decide (0 < (xs5.size : Int)) = true := decide_eq_true c14
              have c14b1 : decide (0 < xs5.size) = true := decide_eq_true (by omega)
              clear c14
              by_cases c16 : (bt xs5 0) = 0
              · rw [if_pos c16] at H
                have c16b0 : ((bt xs5 0) == 0) = true := beq_iff_eq.mpr c16
                have c16b1 : ((bt xs5 0) != 0) = false := bne_eq_false_iff_eq.mpr c16
                clear c16
                obtain ⟨ji17, hji17⟩ : ∃ j_ : Int, (wrap64 ((xs5.size : Int) - 1)) = j_ := ⟨_, rfl⟩
                replace H : (if 0 ≤ (ji17) then (if (ji17) < (xs5.size : Int) then (graverlaw03_StrtabTexts.j0 k xs5 t123 t124 t125 t126 ((bt xs5 (ji17)) == 0)) else (none)) else (none)) = some r := by first | (rw [hji17] at H; exact H) | (simp only [hji17] at H ⊢; exact H)
                have hji17w : (IntKind.i64.wrap ((xs5.size : Int) - 1)) = ji17 := (i64_w _).trans hji17
                by_cases c18 : 0 ≤ (ji17)
                · rw [if_pos c18] at H
                  have c18b0 : decide (0 ≤ (ji17)) = true := decide_eq_true c18
                  clear c18
                  by_cases c19 : (ji17) < (xs5.size : Int)
                  · rw [if_pos c19] at H
                    have c19b0 : decide ((ji17) < (xs5.size : Int)) = true := decide_eq_true c19
                    clear c19
                    have H' := Aside0.mk H
                    clear H
                    have p15 : 0 ≤ (0 : Int) := (by omega)
                    have q15 : 0 < xs5.size := (by have : (0 : Int) < (xs5.size : Int) := of_decide_eq_true (by first | (with_reducible assumption) | assumption); omega)
                    have hx15 : ∀ h : 0 < xs5.size, ((xs5[0]'h).toNat : Int) = bt xs5 0 := bt_at xs5 0
                    clear p15
                    have qi15 : (0 < (xs5.size : Int)) = True := eq_true (of_decide_eq_true (by first | (with_reducible assumption) | assumption))
                    replace q15 := eq_true q15
                    have p20 : 0 ≤ ((ji17) : Int) := of_decide_eq_true (by first | (with_reducible assumption) | assumption)
                    have q20 : (ji17) < (xs5.size : Int) := of_decide_eq_true (by first | (with_reducible assumption) | assumption)
                    have hx20 := bt_at xs5 (ji17)
                    replace p20 := eq_true p20
                    replace q20 := eq_true q20
                    go_wp2
                    go_meet
                    case rel => exact ⟨_, (((bt xs5 (ji17)) == 0)), (by first | rfl | (simp; done) | (simp only [← hji5, ← hji17] <;> (first | rfl | simp)) | (simp [*]; done)), H', ⟨by first | omega | exact Nat.le_refl _⟩, ⟨by repeat (first | (with_reducible first | exact HB.out | apply below_alloc | apply pw_below_drewN | apply below_drew1) | exact HB.out)⟩⟩
                  · rw [if_neg c19] at H
                    exact absurd H (by simp)
                · rw [if_neg c18] at H
                  exact absurd H (by simp)
              · rw [if_neg c16] at H
                have c16b0 : ((bt xs5 0) == 0) = false := beq_eq_false_iff_ne.mpr c16
                have c16b1 : ((bt xs5 0) != 0) = true := bne_iff_ne.mpr c16
                have H' := Aside0.mk H
                clear H
                have p15 : 0 ≤ (0 : Int) := (by omega)
                have q15 : 0 < xs5.size := (by have : (0 : Int) < (xs5.size : Int) := of_decide_eq_true (by first | (with_reducible assumption) | assumption); omega)
                have hx15 : ∀ h : 0 < xs5.size, ((xs5[0]'h).toNat : Int) = bt xs5 0 := bt_at xs5 0
                clear p15
                have qi15 : (0 < (xs5.size : Int)) = True := eq_true (of_decide_eq_true (by first | (with_reducible assumption) | assumption))
                replace q15 := eq_true q15
                go_wp2
                go_meet
                case rel => exact ⟨_, (false), (by first | rfl | (simp; done) | (simp [*]; done)), H', ⟨by first | omega | exact Nat.le_refl _⟩, ⟨by repeat (first | (with_reducible first | exact HB.out | apply below_alloc | apply pw_below_drewN | apply below_drew1) | exact HB.out)⟩⟩
            · rw [if_neg c14] at H
              exact absurd H (by simp)
        case rest =>
          clear HC10
          try clear c1
          try clear p1
          try clear q1
          try clear hx1
          try clear qi1
          try clear p2
          try clear q2
          try clear hx2
          try clear c4
          try clear c5
          try clear c6
          try clear c6b0
          try clear c6b1
          try clear p6
          try clear c7
          try clear c7b0
          try clear c7b1
          try clear c8
          try clear c9
          try clear c13
          try clear c13b0
          try clear c13b1
          try clear c14
          try clear c14b0
          try clear c14b1
          try clear p15
          try clear q15
          try clear hx15
          try clear qi15
          try clear c16
          try clear c16b0
          try clear c16b1
          try clear c18
          try clear c18b0
          try clear c19
          try clear c19b0
          try clear p20
          try clear q20
          try clear hx20
          try clear p15
          try clear p20
          try clear q15
          try clear q20
          obtain ⟨kq, x9_9, rfl, HA, HJ9, HB⟩ := hcut
          cases kq with
          | zero => exact absurd HA.out (by simp [graverlaw03_StrtabTexts.j0])
          | succ kj9 =>
            have H := HA.out
            clear HA
            simp only [graverlaw03_StrtabTexts.j0] at H
            replace H := Option.bind_eq_some_iff.mp H
            obtain ⟨t127, A210, H⟩ := H
            replace H : (if t123.toList = t125.toList then (if (t124 != t126) = true then (graverlaw03_StrtabTexts.j1 kj9 xs5 x9_9 t127 true) else ((strtab_Right.f xs5).bind fun t130 => (graverlaw03_StrtabTexts.j1 kj9 xs5 x9_9 t127 (t130 != x9_9)))) else (graverlaw03_StrtabTexts.j1 kj9 xs5 x9_9 t127 true)) = some r := H
            have A21 := Aside0.mk A210
            clear A210
            have HC22 := Aside0.mk H
            clear H
            go_upto_region 8 with (first | ((with_reducible refine gate_callee (f := 7) rfl ?_); refine goesL_ (some 48) rfl rfl Tryd.func7 (by kernel_rfl) rfl #[.string xs5] rfl (by (try simp only [List.map_toArray, List.map_cons, List.map_nil]); first | done | (simp only [hji5]; rfl) | rfl | (simp only [List.length_drop, List.length_take]; rfl)) ?_; (with_reducible refine (strtab_All.calls kj9 xs5 t127 _ ?side1 A21.out).mono ?_); (case side1 => exact Go.Proofs.YtolgilamchadfaaDoor.MaxAt.below HT.out (by repeat (first | (with_reducible first | exact HB.out | apply below_alloc | apply pw_below_drewN | apply below_drew1) | exact HB.out))); rintro e w23 ⟨v128, rfl, ho0, hb⟩; refine ⟨_, rfl, ?_⟩; have n0_ := Aside0.mk (Kd.R_lower ho0 (below_size (by repeat (first | (with_reducible first | exact HB.out | apply below_alloc | apply pw_below_drewN | apply below_drew1) | exact HB.out)))); have n1_ := Aside0.mk (below_step (by repeat (first | (with_reducible first | exact HB.out | apply below_alloc | apply pw_below_drewN | apply below_drew1) | exact HB.out)) hb); clear HB; have HO129 := n0_; have HB := n1_; clear n0_ n1_; (try clear hb); (try clear hb2); (try clear hk); (try clear hi); (try clear ho0)))
            (try simp only [Act.put, List.setIfInBounds_toArray, List.set_cons_zero, List.set_cons_succ])
            go_cut [62] (fun v62 wc => ∃ (kq : Nat) (x62_21 : Bool), v62 = .bool x62_21 ∧ Aside0 (graverlaw03_StrtabTexts.j1 kq xs5 x9_9 t127 x62_21 = some r) ∧ Aside0 (kq ≤ kj9) ∧ Aside0 (Kd.R Kd.string 9 wc w.heap.size (fun _ => True) v128 t127) ∧ Aside0 (Below w.heap.size w wc))
            case first =>
              have H := HC22.out
              clear HC22
              by_cases c24 : t123.toList = t125.toList
              · rw [if_pos c24] at H
                have c24b0 : (t123.toList == t125.toList) = true := beq_iff_eq.mpr c24
                have c24b1 : (t123.toList != t125.toList) = false := bne_eq_false_iff_eq.mpr c24
                clear c24
                (first | rw [c24b0] | (simp only [i64_w, i32_w]; rw [c24b0]) | skip)
                by_cases c25 : (t124 != t126) = true
                · rw [if_pos c25] at H
                  have c25b0 : (t124 != t126) = true := c25
                  (try (have c25b1 : decide (t124 = t126) = false := by simpa using c25))
                  (try (have c25b2 : (t124 == t126) = false := by simpa using c25))
                  (try (have c25b3 : ¬ (t124 = t126) := by simpa using c25))
                  clear c25
                  have H' := Aside0.mk H
                  clear H
                  go_wp2
                  go_meet
                  case rel => exact ⟨_, (true), (by first | rfl | (simp; done) | (simp [*]; done)), H', ⟨by have := HJ9.out; first | omega | exact Nat.le_refl _⟩, ⟨by (with_reducible repeat (first | apply Kd.R_alloc | apply Kd.R_drewN | apply Kd.R_drew)); exact HO129.out⟩, ⟨by repeat (first | (with_reducible first | exact HB.out | apply below_alloc | apply pw_below_drewN | apply below_drew1) | exact HB.out)⟩⟩
                · rw [if_neg c25] at H
                  have c25b0 : (t124 != t126) = false := by simpa using c25
                  (try (have c25b1 : decide (t124 = t126) = true := by simpa using c25))
                  (try (have c25b2 : (t124 == t126) = true := by simpa using c25))
                  clear c25
                  replace H := Option.bind_eq_some_iff.mp H
                  obtain ⟨t130, A260, H⟩ := H
                  replace H : (graverlaw03_StrtabTexts.j1 kj9 xs5 x9_9 t127 (t130 != x9_9)) = some r := H
                  have A26 := Aside0.mk A260
                  clear A260
                  have H' := Aside0.mk H
                  clear H
                  go_wp2_with (first | (go_at_call 10; (with_reducible refine (strtab_Right.calls xs5 t130 _ A26.out).mono ?_); rintro e w27 ⟨rfl, hb⟩; have n0_ := Aside0.mk (Kd.R_below (by (with_reducible repeat (first | apply Kd.R_alloc | apply Kd.R_drewN | apply Kd.R_drew)); exact HO129.out) hb); have n1_ := Aside0.mk (below_step (by repeat (first | (with_reducible first | exact HB.out | apply below_alloc | apply pw_below_drewN | apply below_drew1) | exact HB.out)) hb); clear HO129; clear HB; have HO129 := n0_; have HB := n1_; clear n0_ n1_; (try clear hb); (try clear hb2); (try clear hk); (try clear hi)))
                  go_meet
                  case rel => exact ⟨_, ((t130 != x9_9)), (by first | rfl | (simp; done) | (simp [*]; done)), H', ⟨by have := HJ9.out; first | omega | exact Nat.le_refl _⟩, ⟨by (with_reducible repeat (first | apply Kd.R_alloc | apply Kd.R_drewN | apply Kd.R_drew)); exact HO129.out⟩, ⟨by repeat (first | (with_reducible first | exact HB.out | apply below_alloc | apply pw_below_drewN | apply below_drew1) | exact HB.out)⟩⟩
              · rw [if_neg c24] at H
                have c24b0 : (t123.toList == t125.toList) = false := beq_eq_false_iff_ne.mpr c24
                have c24b1 : (t123.toList != t125.toList) = true := bne_iff_ne.mpr c24
                (first | rw [c24b0] | (simp only [i64_w, i32_w]; rw [c24b0]) | skip)
                have H' := Aside0.mk H
                clear H
                go_wp2
                go_meet
                case rel => exact ⟨_, (true), (by first | rfl | (simp; done) | (simp [*]; done)), H', ⟨by have := HJ9.out; first | omega | exact Nat.le_refl _⟩, ⟨by (with_reducible repeat (first | apply Kd.R_alloc | apply Kd.R_drewN | apply Kd.R_drew)); exact HO129.out⟩, ⟨by repeat (first | (with_reducible first | exact HB.out | apply below_alloc | apply pw_below_drewN | apply below_drew1) | exact HB.out)⟩⟩
            case rest =>
              clear HC22
              try clear c1
              try clear p1
              try clear q1
              try clear hx1
              try clear qi1
              try clear c2
              try clear p2
              try clear q2
              try clear hx2
              try clear c4
              try clear c5
              try clear c6
              try clear c6b0
              try clear c6b1
              try clear p6
              try clear c7
              try clear c7b0
              try clear c7b1
              try clear c8
              try clear c9
              try clear c13
              try clear c13b0
              try clear c13b1
              try clear c14
              try clear c14b0
              try clear c14b1
              try clear p15
              try clear q15
              try clear hx15
              try clear qi15
              try clear c16
              try clear c16b0
              try clear c16b1
              try clear c18
              try clear c18b0
              try clear c19
              try clear c19b0
              try clear p20
              try clear q20
              try clear hx20
              try clear c24
              try clear c24b0
              try clear c24b1
              try clear c25
              try clear c25b0
              try clear c25b1
              try clear c25b2
              try clear p1
              try clear p15
              try clear p2
              try clear p20
              try clear p6
              try clear q1
              try clear q15
              try clear q2
              try clear q20
              obtain ⟨kq, x62_21, rfl, HA, HJ21, HO_10, HB⟩ := hcut
              cases kq with
              | zero => exact absurd HA.out (by simp [graverlaw03_StrtabTexts.j1])
              | succ kj21 =>
                have H := HA.out
                clear HA
                simp only [graverlaw03_StrtabTexts.j1] at H
                by_cases c28 : x62_21 = true
                · subst c28
                  have H1 : (some false) = some r := by rw [if_pos rfl] at H; exact H
                  clear H
                  have H := H1
                  clear H1
                  obtain rfl := Option.some.inj H
                  go_wp2
                  go_ret
                  exact ⟨by first | rfl | (simp [errW_none, errW_some] <;> rfl) | (simp only [← hji5]; first | rfl | (simp [errW_none, errW_some] <;> rfl)) | (simp [*, errW_none, errW_some] <;> rfl), by repeat (first | (with_reducible first | exact HB.out | apply below_alloc | apply pw_below_drewN | apply below_drew1) | exact HB.out)⟩
                · replace c28 := Bool.eq_false_iff.mpr c28
                  subst c28
                  have H1 : (if x9_9 = true then (graverlaw03_StrtabTexts.j2 kj21 xs5 t127 (xs5.toList == ([] : List UInt8))) else (graverlaw03_StrtabTexts.j2 kj21 xs5 t127 true)) = some r := by rw [if_neg (show ¬ (false = true) by decide)] at H; exact H
                  clear H
                  have H := H1
                  clear H1
                  have HC29 := Aside0.mk H
                  clear H
                  go_upto_region 10 with (fail)
                  go_cut [68] (fun v68 wc => ∃ (kq : Nat) (x68_28 : Bool), v68 = .bool x68_28 ∧ Aside0 (graverlaw03_StrtabTexts.j2 kq xs5 t127 x68_28 = some r) ∧ Aside0 (kq ≤ kj21) ∧ Aside0 (Kd.R Kd.string 9 wc w.heap.size (fun _ => True) v128 t127) ∧ Aside0 (Below w.heap.size w wc))
                  case first =>
                    have H := HC29.out
                    clear HC29
                    by_cases c30 : x9_9 = true
                    · subst c30
                      have H1 : (graverlaw03_StrtabTexts.j2 kj21 xs5 t127 (xs5.toList == ([] : List UInt8))) = some r := by rw [if_pos rfl] at H; exact H
                      clear H
                      have H := H1
                      clear H1
                      have H' := Aside0.mk H
                      clear H
                      go_wp2
                      go_meet
                      case rel => exact ⟨_, ((xs5.toList == ([] : List UInt8))), (by first | rfl | (simp; done) | (simp only [← hji5] <;> (first | rfl | simp)) | (simp [*]; done)), H', ⟨by have := HJ9.out; have := HJ21.out; first | omega | exact Nat.le_refl _⟩, ⟨by (with_reducible repeat (first | apply Kd.R_alloc | apply Kd.R_drewN | apply Kd.R_drew)); exact HO_10.out⟩, ⟨by repeat (first | (with_reducible first | exact HB.out | apply below_alloc | apply pw_below_drewN | apply below_drew1) | exact HB.out)⟩⟩
                    · replace c30 := Bool.eq_false_iff.mpr c30
                      subst c30
                      have H1 : (graverlaw03_StrtabTexts.j2 kj21 xs5 t127 true) = some r := by rw [if_neg (show ¬ (false = true) by decide)] at H; exact H
                      clear H
                      have H := H1
                      clear H1
                      have H' := Aside0.mk H
                      clear H
                      go_wp2
                      go_meet
                      case rel => exact ⟨_, (true), (by first | rfl | (simp; done) | (simp [*]; done)), H', ⟨by have := HJ9.out; have := HJ21.out; first | omega | exact Nat.le_refl _⟩, ⟨by (with_reducible repeat (first | apply Kd.R_alloc | apply Kd.R_drewN | apply Kd.R_drew)); exact HO_10.out⟩, ⟨by repeat (first | (with_reducible first | exact HB.out | apply below_alloc | apply pw_below_drewN | apply below_drew1) | exact HB.out)⟩⟩
                  case rest =>
                    clear HC29
                    try clear c1
                    try clear p1
                    try clear q1
                    try clear hx1
                    try clear qi1
                    try clear c2
                    try clear p2
                    try clear q2
                    try clear hx2
                    try clear c3
                    try clear c4
                    try clear c5
                    try clear c6
                    try clear c6b0
                    try clear c6b1
                    try clear p6
                    try clear c7
                    try clear c7b0
                    try clear c7b1
                    try clear c8
                    try clear c9
                    try clear c13
                    try clear c13b0
                    try clear c13b1
                    try clear c14
                    try clear c14b0
                    try clear c14b1
                    try clear p15
                    try clear q15
                    try clear hx15
                    try clear qi15
                    try clear c16
                    try clear c16b0
                    try clear c16b1
                    try clear c18
                    try clear c18b0
                    try clear c19
                    try clear c19b0
                    try clear p20
                    try clear q20
                    try clear hx20
                    try clear c24
                    try clear c24b0
                    try clear c24b1
                    try clear c25
                    try clear c25b0
                    try clear c25b1
                    try clear c25b2
                    try clear c28
                    try clear c30
                    try clear p1
                    try clear p15
                    try clear p2
                    try clear p20
                    try clear p6
                    try clear q1
                    try clear q15
                    try clear q2
                    try clear q20
                    obtain ⟨kq, x68_28, rfl, HA, HJ28, HO_10, HB⟩ := hcut
                    cases kq with
                    | zero => exact absurd HA.out (by simp [graverlaw03_StrtabTexts.j2])
                    | succ kj28 =>
                      have H := HA.out
                      clear HA
                      simp only [graverlaw03_StrtabTexts.j2] at H
                      by_cases c31 : x68_28 = true
                      · subst c31
                        have H1 : (some ((t127.length : Int) == 0)) = some r := by rw [if_pos rfl] at H; exact H
                        clear H
                        have H := H1
                        clear H1
                        obtain rfl := Option.some.inj H
                        obtain ⟨Ao32, co32, eo32⟩ := Kd.R_slice HO_10.out
                        subst eo32
                        go_wp2
                        go_ret
                        exact ⟨by first | rfl | (simp [errW_none, errW_some] <;> rfl) | (simp only [← hji5]; first | rfl | (simp [errW_none, errW_some] <;> rfl)) | (simp [*, errW_none, errW_some] <;> rfl), by repeat (first | (with_reducible first | exact HB.out | apply below_alloc | apply pw_below_drewN | apply below_drew1) | exact HB.out)⟩
                      · replace c31 := Bool.eq_false_iff.mpr c31
                        subst c31
                        have H1 : (graverlaw03_StrtabTexts.l0 kj28 xs5 t127 (⟨#[]⟩ : ByteArray) 0) = some r := by rw [if_neg (show ¬ (false = true) by decide)] at H; exact H
                        clear H
                        have H := H1
                        clear H1
                        have H' := Aside0.mk H
                        clear H
                        go_wp2
                        go_loopg [11, 12] kj28 (fun kq v11 v12 w' => ∃ (x11_4 : ByteArray) (x12_4 : Int), v11 = .string x11_4 ∧ v12 = .int .i64 x12_4 ∧ Aside0 (graverlaw03_StrtabTexts.l0 kq xs5 t127 x11_4 x12_4 = some r) ∧ Aside0 (kq ≤ kj28) ∧ Aside0 (Kd.R Kd.string 9 w' w.heap.size (fun _ => True) v128 t127) ∧ Aside0 (Below w.heap.size w w'))
                        case atStart => exact ⟨((⟨#[]⟩ : ByteArray)), (0), (by first | rfl | (simp; done) | (simp [*]; done)), (by first | rfl | (simp; done) | (simp [*]; done)), H', ⟨Nat.le_refl _⟩, ⟨by (with_reducible repeat (first | apply Kd.R_alloc | apply Kd.R_drewN | apply Kd.R_drew)); exact HO_10.out⟩, ⟨by repeat (first | (with_reducible first | exact HB.out | apply below_alloc | apply pw_below_drewN | apply below_drew1) | exact HB.out)⟩⟩
                        case round =>
                          clear H'
                          try clear c1
                          try clear p1
                          try clear q1
                          try clear hx1
                          try clear qi1
                          try clear c2
                          try clear p2
                          try clear q2
                          try clear hx2
                          try clear c3
                          try clear c4
                          try clear c5
                          try clear c6
                          try clear c6b0
                          try clear c6b1
                          try clear p6
                          try clear c7
                          try clear c7b0
                          try clear c7b1
                          try clear c8
                          try clear c9
                          try clear c13
                          try clear c13b0
                          try clear c13b1
                          try clear c14
                          try clear c14b0
                          try clear c14b1
                          try clear p15
                          try clear q15
                          try clear hx15
                          try clear qi15
                          try clear c16
                          try clear c16b0
                          try clear c16b1
                          try clear c18
                          try clear c18b0
                          try clear c19
                          try clear c19b0
                          try clear p20
                          try clear q20
                          try clear hx20
                          try clear c24
                          try clear c24b0
                          try clear c24b1
                          try clear c25
                          try clear c25b0
                          try clear c25b1
                          try clear c25b2
                          try clear c28
                          try clear c30
                          try clear c31
                          try clear p1
                          try clear p15
                          try clear p2
                          try clear p20
                          try clear p6
                          try clear q1
                          try clear q15
                          try clear q2
                          try clear q20
                          obtain ⟨x11_4, x12_4, rfl, rfl, HA, HK4, HO_10, HB⟩ := hrel
                          cases gk with
                          | zero => exact absurd HA.out (by simp [graverlaw03_StrtabTexts.l0])
                          | succ k4 =>
                            have H := HA.out
                            clear HA
                            simp only [graverlaw03_StrtabTexts.l0] at H
                            by_cases c33 : x12_4 < (t127.length : Int)
                            · rw [if_pos c33] at H
                              have c33b0 : decide (x12_4 < (t127.length : Int)) = true := decide_eq_true c33
                              clear c33
                              by_cases c34 : 0 ≤ x12_4
                              · rw [if_pos c34] at H
                                have c34b0 : decide (0 ≤ x12_4) = true := decide_eq_true c34
                                clear c34
                                by_cases c35 : (rdOf ByteArray.empty t127 x12_4).size + 1 ≤ 9223372036854775807
                                · rw [if_pos c35] at H
                                  have c35b0 := eq_true c35
                                  have c35b1 : decide ((rdOf ByteArray.empty t127 x12_4).size + 1 ≤ 9223372036854775807) = true := decide_eq_true c35
                                  try have c35b2 : (9223372036854775807 < (rdOf ByteArray.empty t127 x12_4).size + 1) = False := eq_false (Nat.not_lt.2 c35)
                                  by_cases c36 : x11_4.size + ((rdOf ByteArray.empty t127 x12_4) ++ (⟨#[0]⟩ : ByteArray)).size ≤ 9223372036854775807
                                  · rw [if_pos c36] at H
                                    have c36b0 := eq_true c36
                                    have c36b1 : decide (x11_4.size + ((rdOf ByteArray.empty t127 x12_4) ++ (⟨#[0]⟩ : ByteArray)).size ≤ 9223372036854775807) = true := decide_eq_true c36
                                    try have c36b2 : (9223372036854775807 < x11_4.size + ((rdOf ByteArray.empty t127 x12_4) ++ (⟨#[0]⟩ : ByteArray)).size) = False := eq_false (Nat.not_lt.2 c36)
                                    have H' := Aside0.mk H
                                    clear H
                                    obtain ⟨Ao37, co37, eo37⟩ := Kd.R_slice HO_10.out
                                    subst eo37
                                    have p131 : 0 ≤ (x12_4 : Int) := of_decide_eq_true (by first | (with_reducible assumption) | assumption)
                                    have q131 : x12_4 < (t127.length : Int) := of_decide_eq_true (by first | (with_reducible assumption) | assumption)
                                    obtain ⟨ad131, e131, hx131_0⟩ := Kd.at_string (Kd.R_reads' HO_10.out).2.2 x12_4 p131 q131
                                    cases e131
                                    replace p131 := eq_true p131
                                    replace q131 := eq_true q131
                                    go_wp2
                                    go_roundg k4
                                    case measure => have := HJ9.out; have := HJ21.out; have := HJ28.out; have := HK4.out; omega
                                    case rel => exact ⟨(x11_4 ++ ((rdOf ByteArray.empty t127 x12_4) ++ (⟨#[0]⟩ : ByteArray))), (wrap64 (x12_4 + 1)), (by first | rfl | (simp; done) | (simp [*]; done)), (by first | rfl | (simp; done) | (simp [*]; done)), H', ⟨by have := HJ9.out; have := HJ21.out; have := HJ28.out; have := HK4.out; omega⟩, ⟨by (with_reducible repeat (first | apply Kd.R_alloc | apply Kd.R_drewN | apply Kd.R_drew)); exact HO_10.out⟩, ⟨by repeat (first | (with_reducible first | exact HB.out | apply below_alloc | apply pw_below_drewN | apply below_drew1) | exact HB.out)⟩⟩
                                  · rw [if_neg c36] at H
                                    exact absurd H (by simp)
                                · rw [if_neg c35] at H
                                  exact absurd H (by simp)
                              · rw [if_neg c34] at H
                                exact absurd H (by simp)
                            · rw [if_neg c33] at H
                              have c33b0 : decide (x12_4 < (t127.length : Int)) = false := decide_eq_false c33
                              clear c33
                              obtain rfl := Option.some.inj H
                              obtain ⟨Ao38, co38, eo38⟩ := Kd.R_slice HO_10.out
                              subst eo38
                              go_wp2
                              go_ret
                              exact ⟨by first | rfl | (simp [errW_none, errW_some] <;> rfl) | (simp only [← hji5]; first | rfl | (simp [errW_none, errW_some] <;> rfl)) | (simp [*, errW_none, errW_some] <;> rfl), by repeat (first | (with_reducible first | exact HB.out | apply below_alloc | apply pw_below_drewN | apply below_drew1) | exact HB.out)⟩
      · rw [if_neg c7] at H
        exact absurd H (by simp)
    · rw [if_neg c6] at H
      exact absurd H (by simp)
  · replace c4 := Bool.eq_false_iff.mpr c4
    subst c4
    have H1 : (some false) = some r := by rw [if_neg (show ¬ (false = true) by decide)] at H; exact H
    clear H
    have H := H1
    clear H1
    obtain rfl := Option.some.inj H
    go_enter Tryd.func4, Tryd.ntmps4
    go_wp2_with (first | ((with_reducible refine gate_callee (f := 5) rfl ?_); refine goesL_ (some 13) rfl rfl Tryd.func5 (by kernel_rfl) rfl #[] rfl (by (try simp only [List.map_toArray, List.map_cons, List.map_nil]); first | done | rfl | (simp only [List.length_drop, List.length_take]; rfl)) ?_; (with_reducible refine (graverlaw03_speaks.calls  false _ ?side1 A3.out).mono ?_); (case side1 => exact Go.Proofs.YtolgilamchadfaaDoor.MaxAt.below HT.out (by repeat (first | (with_reducible first | exact HB.out | apply below_alloc | apply pw_below_drewN | apply below_drew1) | exact HB.out))); rintro e w39 ⟨rfl, hb⟩; refine ⟨_, rfl, ?_⟩; have n0_ := Aside0.mk (below_step (by repeat (first | (with_reducible first | exact HB.out | apply below_alloc | apply pw_below_drewN | apply below_drew1) | exact HB.out)) hb); clear HB; have HB := n0_; clear n0_; (try clear hb); (try clear hb2); (try clear hk); (try clear hi)))
    go_ret
    exact ⟨by first | rfl | (simp [errW_none, errW_some] <;> rfl) | (simp [*, errW_none, errW_some] <;> rfl), by repeat (first | (with_reducible first | exact HB.out | apply below_alloc | apply pw_below_drewN | apply below_drew1) | exact HB.out)⟩

end Go.Proofs.YtolgilamchadfaaDoorX.Tx

/- Contracts over this translation: dynrec.Notes. -/
import Derived.Test.YtcfbdnlbgcoicaaDoorDynD
namespace Go.Proofs.YtcfbdnlbgcoicaaDoor
set_option linter.unusedVariables false
set_option linter.unusedSimpArgs false
open Go.RowKit

theorem dropWhile_nil {α : Type} (p : α → Bool) (l : List α) : l.dropWhile p = [] ↔ l.all p = true := by
  induction l with
  | nil => simp
  | cons x r ih =>
    rw [List.dropWhile_cons, List.all_cons]
    cases hp : p x
    · simp
    · simpa using ih
theorem dropWhile_all {α : Type} (p : α → Bool) (l : List α) (h : (l.dropWhile p).all p = true) : l.all p = true := by
  induction l with
  | nil => simp
  | cons x r ih =>
    rw [List.dropWhile_cons] at h
    cases hp : p x
    · rw [hp] at h; simp [hp] at h
    · rw [hp] at h; simp only [if_true] at h; rw [List.all_cons, hp]; simpa using ih h
theorem trimB_nil (l : List UInt8) (c : UInt8) : Lib.trimB l c = [] ↔ l.all (· == c) = true := by
  unfold Lib.trimB Lib.trimLeftB Lib.trimRightB
  rw [dropWhile_nil]
  constructor
  · intro h
    rw [List.all_reverse] at h
    have := dropWhile_all _ _ h
    rwa [List.all_reverse] at this
  · intro h
    rw [List.all_reverse]
    have : (l.reverse.dropWhile (· == c)) = [] := (dropWhile_nil _ _).2 (by rw [List.all_reverse]; exact h)
    rw [this]; rfl
theorem trim_b (l : List UInt8) (hl : l.length ≤ 9223372036854775807) (w : World) :
    Calls Tryd.prog 30 #[.string ⟨l.toArray⟩, .string ⟨#[0]⟩] w fun e w' => e = .returned (.string ⟨(Lib.trimB l 0).toArray⟩) ∧ Below w.heap.size w w' := by
  refine (Tryd.strings_Trim_one ⟨l.toArray⟩ 0 (by decide) w hl).mono ?_
  rintro e w' ⟨rfl, h⟩
  refine ⟨rfl, ?_⟩
  rcases h with rfl | rfl
  · exact Below.refl _ _
  · exact ⟨rfl, rfl, rfl, Nat.le_refl _, fun _ _ => rfl⟩

/-- The notes, or why there are none. -/
def noteR (big : Bool) : Nat → List UInt8 → Except Nat (List NoteD)
  | 0, _ => .error 3
  | f + 1, s =>
    if s.length = 0 then .ok [] else
    let name := getL big (s.take 4)
    let desc := getL big ((s.drop 4).take 4)
    let p := (padZ (name % 4)).length
    let q := (padZ (desc % 4)).length
    if s.length < 12 + name + p + desc + q then .error 3 else
    if ((s.drop (12 + name)).take p ++ (s.drop (12 + name + p + desc)).take q).all (· == 0) = true then
      match noteR big f (s.drop (12 + name + p + desc + q)) with
      | .ok r => .ok (⟨getL big ((s.drop 8).take 4), (s.drop 12).take name, (s.drop (12 + name + p)).take desc⟩ :: r)
      | .error c => .error c
    else .error 6
def preR (pre : List NoteD) : Except Nat (List NoteD) → Except Nat (List NoteD)
  | .ok r => .ok (pre ++ r)
  | .error c => .error c
def NotesPost (w : World) (r : Except Nat (List NoteD)) (e : Ending) (w' : World) : Prop :=
  match r with
  | .error c => e = .returned (.tuple #[.slice none 0 0, .int .i64 (c : Int)]) ∧ Below w.heap.size w w'
  | .ok es => ∃ a c, e = .returned (.tuple #[.slice a es.length c, .int .i64 0]) ∧ Rd w' a (es.flatMap encN) ∧ Below w.heap.size w w'
def NotesPostO (w : World) (r : Except Nat (List NoteD)) (e : Ending) (w' : World) : Prop :=
  match r with
  | .error c => e = .returned (.tuple #[.slice none 0 0, .int .i64 (c : Int)]) ∧ Below w.heap.size w w'
  | .ok es => ∃ a c, e = .returned (.tuple #[.slice a es.length c, .int .i64 0]) ∧ w'.ownsRow w.heap.size 34 3 (.slice a es.length c) es.length (es.flatMap encN) ∧ Below w.heap.size w w'

theorem note_step (big : Bool) (l : List UInt8) (at_ : Nat) (hat : at_ < l.length) (f : Nat) (pre : List NoteD) (R : Except Nat (List NoteD)) (hR : R = preR pre (noteR big (f + 1) (l.drop at_)))
    (a1 a2 a3 a4 a5 a6 a7 v1 v2 v3 p q : Nat) (b1 b2 b3 b4 b5 b6 b7 : Bool) (s1 s2 s3 s4 : List UInt8)
    (e1 : a1 = rbAt l at_ false 4) (d1 : b1 = rbBad l at_ false 4) (g1 : v1 = rnV big l at_ false 4)
    (e2 : a2 = rbAt l a1 b1 4) (d2 : b2 = rbBad l a1 b1 4) (g2 : v2 = rnV big l a1 b1 4)
    (e3 : a3 = rbAt l a2 b2 4) (d3 : b3 = rbBad l a2 b2 4) (g3 : v3 = rnV big l a2 b2 4)
    (e4 : a4 = rbAt l a3 b3 v1) (d4 : b4 = rbBad l a3 b3 v1) (g4 : s1 = rbL l a3 b3 v1)
    (e5 : a5 = rbAt l a4 b4 p) (d5 : b5 = rbBad l a4 b4 p) (g5 : s2 = rbL l a4 b4 p)
    (e6 : a6 = rbAt l a5 b5 v2) (d6 : b6 = rbBad l a5 b5 v2) (g6 : s3 = rbL l a5 b5 v2)
    (e7 : a7 = rbAt l a6 b6 q) (d7 : b7 = rbBad l a6 b6 q) (g7 : s4 = rbL l a6 b6 q)
    (hp : p = (padZ (v1 % 4)).length) (hq : q = (padZ (v2 % 4)).length) :
    b7 = true ∧ R = .error 3 ∨ b7 = false ∧ a7 ≤ l.length ∧ at_ + 12 ≤ a7 ∧ ((s2 ++ s4).all (· == 0) = false ∧ R = .error 6 ∨ (s2 ++ s4).all (· == 0) = true ∧ R = preR (pre ++ [⟨v3, s1, s3⟩]) (noteR big f (l.drop a7))) := by
  have hne : (l.drop at_).length = l.length - at_ := List.length_drop
  rw [noteR] at hR
  rw [if_neg (by rw [hne]; omega)] at hR
  simp only [List.drop_drop, hne] at hR
  have no : ∀ {a n : Nat} (b : Bool), b = true → rbBad l a b n = true := by intro a n b hb; subst hb; exact (rb_bad l a n).2.1
  by_cases h1 : at_ + 4 ≤ l.length
  · obtain ⟨x1, y1, z1⟩ := rb_ok h1
    rw [x1] at e1; rw [y1] at d1; unfold rnV at g1; rw [z1] at g1
    subst e1 d1
    by_cases h2 : at_ + 4 + 4 ≤ l.length
    · obtain ⟨x2, y2, z2⟩ := rb_ok h2
      rw [x2] at e2; rw [y2] at d2; unfold rnV at g2; rw [z2] at g2
      subst e2 d2
      rw [← g1, ← g2, ← hp, ← hq] at hR
      by_cases h3 : at_ + 4 + 4 + 4 ≤ l.length
      · obtain ⟨x3, y3, z3⟩ := rb_ok h3
        rw [x3] at e3; rw [y3] at d3; unfold rnV at g3; rw [z3] at g3
        subst e3 d3
        by_cases h4 : at_ + 4 + 4 + 4 + v1 ≤ l.length
        · obtain ⟨x4, y4, z4⟩ := rb_ok h4
          rw [x4] at e4; rw [y4] at d4; rw [z4] at g4
          subst e4 d4
          by_cases h5 : at_ + 4 + 4 + 4 + v1 + p ≤ l.length
          · obtain ⟨x5, y5, z5⟩ := rb_ok h5
            rw [x5] at e5; rw [y5] at d5; rw [z5] at g5
            subst e5 d5
            by_cases h6 : at_ + 4 + 4 + 4 + v1 + p + v2 ≤ l.length
            · obtain ⟨x6, y6, z6⟩ := rb_ok h6
              rw [x6] at e6; rw [y6] at d6; rw [z6] at g6
              subst e6 d6
              by_cases h7 : at_ + 4 + 4 + 4 + v1 + p + v2 + q ≤ l.length
              · obtain ⟨x7, y7, z7⟩ := rb_ok h7
                rw [x7] at e7; rw [y7] at d7; rw [z7] at g7
                subst e7 d7
                right
                refine ⟨rfl, h7, by omega, ?_⟩
                rw [if_neg (by omega)] at hR
                rw [show at_ + (12 + v1) = at_ + 4 + 4 + 4 + v1 by omega, show at_ + (12 + v1 + p + v2) = at_ + 4 + 4 + 4 + v1 + p + v2 by omega, ← g5, ← g7] at hR
                rw [show at_ + (12 + v1 + p + v2 + q) = at_ + 4 + 4 + 4 + v1 + p + v2 + q by omega, show at_ + 8 = at_ + 4 + 4 by omega, show at_ + 12 = at_ + 4 + 4 + 4 by omega, show at_ + (12 + v1 + p) = at_ + 4 + 4 + 4 + v1 + p by omega, ← g3, ← g4, ← g6] at hR
                by_cases hz : (s2 ++ s4).all (· == 0) = true
                · right
                  rw [if_pos hz] at hR
                  refine ⟨hz, ?_⟩
                  rw [hR]
                  cases noteR big f (l.drop (at_ + 4 + 4 + 4 + v1 + p + v2 + q)) with
                  | ok r => simp [preR]
                  | error c => rfl
                · left
                  rw [if_neg hz] at hR
                  exact ⟨by simpa using hz, hR⟩
              · left
                rw [if_pos (by omega)] at hR
                exact ⟨by rw [d7]; exact (rb_no h7).2.1, hR⟩
            · left
              rw [if_pos (by omega)] at hR
              exact ⟨by rw [d7]; exact no _ (by rw [d6]; exact (rb_no h6).2.1), hR⟩
          · left
            rw [if_pos (by omega)] at hR
            exact ⟨by rw [d7]; exact no _ (by rw [d6]; exact no _ (by rw [d5]; exact (rb_no h5).2.1)), hR⟩
        · left
          rw [if_pos (by omega)] at hR
          exact ⟨by rw [d7]; exact no _ (by rw [d6]; exact no _ (by rw [d5]; exact no _ (by rw [d4]; exact (rb_no h4).2.1))), hR⟩
      · left
        rw [if_pos (by omega)] at hR
        exact ⟨by rw [d7]; exact no _ (by rw [d6]; exact no _ (by rw [d5]; exact no _ (by rw [d4]; exact no _ (by rw [d3]; exact (rb_no h3).2.1)))), hR⟩
    · left
      rw [if_pos (by omega)] at hR
      exact ⟨by rw [d7]; exact no _ (by rw [d6]; exact no _ (by rw [d5]; exact no _ (by rw [d4]; exact no _ (by rw [d3]; exact no _ (by rw [d2]; exact (rb_no h2).2.1))))), hR⟩
  · left
    rw [if_pos (by omega)] at hR
    exact ⟨by rw [d7]; exact no _ (by rw [d6]; exact no _ (by rw [d5]; exact no _ (by rw [d4]; exact no _ (by rw [d3]; exact no _ (by rw [d2]; exact no _ (by rw [d1]; exact (rb_no h1).2.1)))))), hR⟩
end Go.Proofs.YtcfbdnlbgcoicaaDoor

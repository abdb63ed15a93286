/- Plain laws: texts in a table; strtab's small functions; the law's first lines. -/
import Derived.Test.YtolgilamchadfaaDoorXAgx2
namespace Go.Proofs.YtolgilamchadfaaDoorX.Ag
set_option linter.unusedVariables false
set_option linter.unusedSimpArgs false
open Go.RowKit Go.Proofs.YtolgilamchadfaaDoor Go.Proofs.YtolgilamchadfaaDoorW.PrintWords Go.Proofs.YtolgilamchadfaaDoorW.PrintLast Go.Proofs.YtolgilamchadfaaDoorW.PrintMore

theorem hidB_eq (nm s : ByteArray) : hidB nm s = (!(s.data.toList == nm.data.toList) && Lib.hasSuffix s.data.toList nm.data.toList) := by
  unfold hidB; rw [Lib.toList_data, Lib.toList_data]
theorem ba_list (l : List UInt8) : (⟨l.toArray⟩ : ByteArray).toList = l := by rw [Lib.toList_data]
/-- The same round, in lists alone. -/
def hid2 (nm s : ByteArray) : Bool := !(s.data.toList == nm.data.toList) && Lib.hasSuffix s.data.toList nm.data.toList
def stepT2 (l : List ByteArray) (st : List UInt8 × List (List UInt8)) (i : Nat) : List UInt8 × List (List UInt8) :=
  (if (!decide ((el l i).data.toList ∈ st.2) && !(l.any (hid2 (el l i)))) = true then st.1 ++ ((el l i).data.toList ++ [0]) else st.1, (el l i).data.toList :: st.2)
theorem stT_eq (l : List ByteArray) (pre : List Nat) : stT l pre = pre.foldl (stepT2 l) ([0], [[]]) := by
  unfold stT
  have : Go.Proofs.YtolgilamchadfaaDoor.stepT l = stepT2 l := by
    funext st i
    unfold Go.Proofs.YtolgilamchadfaaDoor.stepT stepT2
    rw [show hidB (el l i) = hid2 (el l i) from funext fun s => hidB_eq _ _]
  rw [this]
theorem speaks_ev : graverlaw03_speaks.f = some true := by
  have h1 : buildR [⟨#[98, 99]⟩, ⟨#[97, 98, 99]⟩] = ([0, 97, 98, 99, 0], [2, 1], 0) := by
    have hs : stT [⟨#[98, 99]⟩, ⟨#[97, 98, 99]⟩] (come 2 2) = ([0, 97, 98, 99, 0], [[98, 99], [97, 98, 99], []]) := by
      rw [stT_eq]
      decide
    unfold buildR
    rw [if_neg (by decide)]
    show (if 1048576 < (stT [⟨#[98, 99]⟩, ⟨#[97, 98, 99]⟩] (come 2 2)).1.length then _ else ((stT [⟨#[98, 99]⟩, ⟨#[97, 98, 99]⟩] (come 2 2)).1, outR (stT [⟨#[98, 99]⟩, ⟨#[97, 98, 99]⟩] (come 2 2)).1 _, (0 : Int))) = _
    rw [hs]
    decide
  have h2 : strtab_Build.f [⟨#[98, 99]⟩, ⟨#[97, 98, 99]⟩] = some (⟨#[0, 97, 98, 99, 0]⟩, [2, 1], 0) := by
    unfold strtab_Build.f
    rw [if_pos (by decide), h1]
  unfold graverlaw03_speaks.f
  rw [h2, Option.bind_some]
  simp only [if_true]
  rw [Lib.toList_data]
  have h3 : strtab_Right.f ⟨#[0, 97, 98, 99, 0]⟩ = some true := by
    unfold strtab_Right.f
    rw [Lib.toList_data]
    decide
  simp only [h3]
  decide
/-- The text that a table has from here on. -/
def textR : List UInt8 → Option (List UInt8)
  | [] => none
  | b :: r => if b = 0 then some [] else (textR r).map (b :: ·)
theorem textR_iff : ∀ (d nm : List UInt8), textR d = some nm ↔ ((0 : UInt8) ∉ nm ∧ (nm ++ [0]).isPrefixOf d = true)
  | [], nm => by cases nm <;> simp [textR]
  | b :: r, nm => by
    unfold textR
    by_cases hb : b = 0
    · subst hb
      rw [if_pos rfl]
      cases nm with
      | nil => simp
      | cons c n2 =>
        constructor
        · intro h; cases h
        · rintro ⟨h1, h2⟩
          simp only [List.cons_append, List.isPrefixOf, Bool.and_eq_true, beq_iff_eq] at h2
          exact absurd (by rw [h2.1]; simp) h1
    · rw [if_neg hb]
      cases nm with
      | nil =>
        constructor
        · intro h
          cases hr : textR r <;> rw [hr] at h <;> cases h
        · rintro ⟨h1, h2⟩
          simp only [List.nil_append, List.isPrefixOf, Bool.and_eq_true, beq_iff_eq] at h2
          exact absurd h2.1.symm hb
      | cons c n2 =>
        have ih := textR_iff r n2
        constructor
        · intro h
          cases hr : textR r with
          | none => rw [hr] at h; cases h
          | some x =>
            rw [hr] at h
            simp only [Option.map_some, Option.some.injEq, List.cons.injEq] at h
            obtain ⟨rfl, rfl⟩ := h
            obtain ⟨h1, h2⟩ := ih.1 hr
            refine ⟨by simp [h1, Ne.symm hb], by simp [List.isPrefixOf]; simpa using h2⟩
        · rintro ⟨h1, h2⟩
          simp only [List.cons_append, List.isPrefixOf, Bool.and_eq_true, beq_iff_eq] at h2
          rw [ih.2 ⟨fun h => h1 (by simp [h]), h2.2⟩, h2.1]
          rfl
theorem dark_iff (s : ByteArray) : darkB s = true ↔ (0 : UInt8) ∈ s.data.toList := by
  unfold darkB
  generalize s.data.toList = l
  rw [decide_eq_true_iff]
  induction l with
  | nil => simp [Lib.indexByte]
  | cons b r ih =>
    unfold Lib.indexByte
    by_cases hb : b = 0
    · subst hb; simp
    · have : (b == 0) = false := by simpa using hb
      rw [this]
      have hge := Lib.indexByte_ge r 0
      simp only [Bool.false_eq_true, if_false, List.mem_cons]
      by_cases hr : Lib.indexByte r 0 = -1
      · rw [hr] at ih ⊢
        simp at ih ⊢
        exact ⟨Ne.symm hb, ih⟩
      · have h2 : (Lib.indexByte r 0 == -1) = false := by simpa using hr
        rw [h2]
        simp only [Bool.false_eq_true, if_false]
        constructor
        · intro h; exact .inr (ih.1 (by omega))
        · rintro (h | h)
          · exact absurd h.symm hb
          · have := ih.2 h; omega
end Go.Proofs.YtolgilamchadfaaDoorX.Ag

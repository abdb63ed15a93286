/- Plain laws: StrtabAdds comes to true; its walk. -/
import Derived.Test.YtolgilamchadfaaXAdP03A
namespace Go.Proofs.YtolgilamchadfaaX.Ad
set_option linter.unusedVariables false
set_option linter.unusedSimpArgs false
open Go.RowKit Go.Proofs.Ytolgilamchadfaa Go.Proofs.YtolgilamchadfaaW.PrintWords Go.Proofs.YtolgilamchadfaaW.PrintLast Go.Proofs.YtolgilamchadfaaW.PrintMore

theorem u64w {x : Int} (h0 : 0 ≤ x) (h1 : x ≤ 18446744073709551615) : IntKind.u64.wrap x = x := by rw [IntKind.wrap_u64]; omega
theorem ba_len (t : ByteArray) : t.data.toList.length = t.size := by rw [Array.length_toList]; rfl
theorem ba_ext {s t : ByteArray} (h : s.data.toList = t.data.toList) : s = t := by
  cases s; cases t; congr; exact Array.ext' h
theorem bt_list (t : ByteArray) (n : Nat) (h : n < t.data.toList.length) : bt t (n : Int) = ((t.data.toList[n]).toNat : Int) := by
  have h2 : n < t.size := by rw [ba_len] at h; exact h
  unfold bt
  rw [dif_pos (by simpa using h2)]
  congr 1
theorem drop_one (t : ByteArray) (n : Nat) (h : n < t.data.toList.length) : t.extract n (n + 1) = ⟨#[t.data.toList[n]]⟩ := by
  apply ba_ext
  rw [ByteArray.data_extract]
  simp only [Array.toList_extract]
  rw [List.extract_eq_take_drop]
  have := List.drop_eq_getElem_cons h
  rw [this, show n + 1 - n = 1 by omega]
  rfl
def tx (l : List UInt8) (n : Nat) : ByteArray × Bool := match textR (l.drop n) with
  | some s => (⟨s.toArray⟩, true)
  | none => (⟨#[]⟩, false)
theorem text_ev (t : ByteArray) (ht : t.size ≤ 4000000) : ∀ d n (acc : ByteArray), n + d = t.size → acc.size + d ≤ 8000000 → Ev (fun k => graverref03_Text.l0 k t acc (n : Int)) (match textR (t.data.toList.drop n) with | some s => (acc ++ ⟨s.toArray⟩, true) | none => (⟨#[]⟩, false)) := by
  intro d
  induction d with
  | zero =>
    intro n acc hn ha
    rw [List.drop_of_length_le (by rw [ba_len]; omega)]
    refine Ev.step (f := fun _ => some ((⟨#[]⟩ : ByteArray), false)) (fun k => ?_) (Ev.now _)
    simp only [graverref03_Text.l0]
    rw [u64w (by omega) (by omega), if_neg (by omega)]
  | succ d ih =>
    intro n acc hn ha
    have hl : n < t.data.toList.length := by rw [ba_len]; omega
    have hb := bt_list t n hl
    have he := drop_one t n hl
    rw [List.drop_eq_getElem_cons hl]
    obtain ⟨b, hbb⟩ : ∃ b, b = t.data.toList[n] := ⟨_, rfl⟩
    rw [← hbb] at hb he ⊢
    unfold textR
    by_cases h0 : b = 0
    · subst h0
      rw [if_pos rfl]
      refine Ev.step (f := fun _ => some (acc, true)) (fun k => ?_) ?_
      · simp only [graverref03_Text.l0]
        rw [u64w (by omega) (by omega), if_pos (by omega), if_pos (by omega), if_pos (by omega), if_pos (by rw [hb]; rfl)]
      · have : acc ++ (⟨([] : List UInt8).toArray⟩ : ByteArray) = acc := by apply ba_ext; simp
        simp only [this]
        exact Ev.now _
    · rw [if_neg h0]
      have hih := ih (n + 1) (acc ++ ⟨#[b]⟩) (by omega) (by rw [ByteArray.size_append]; show acc.size + 1 + d ≤ _; omega)
      refine Ev.step (f := fun k => graverref03_Text.l0 k t (acc ++ ⟨#[b]⟩) ((n + 1 : Nat) : Int)) (fun k => ?_) ?_
      · have hne : ¬ bt t (n : Int) = 0 := by
          rw [hb]
          intro h
          exact h0 (UInt8.toNat_inj.1 (by simpa using h))
        simp only [graverref03_Text.l0]
        rw [u64w (x := (t.size : Int)) (by omega) (by omega), u64w (x := (n : Int) + 1) (by omega) (by omega), if_pos (by omega), if_pos (by omega), if_pos (by omega), if_neg hne, if_pos (by omega), if_pos (by omega)]
        rw [show ((n : Int) + 1).toNat = n + 1 by omega, Int.toNat_natCast, he, if_pos (by show acc.size + 1 ≤ _; omega)]
        rfl
      · cases hr : textR (t.data.toList.drop (n + 1)) with
        | none => rw [hr] at hih; exact hih
        | some s =>
          rw [hr] at hih
          have : acc ++ (⟨#[b]⟩ : ByteArray) ++ ⟨s.toArray⟩ = acc ++ ⟨(b :: s).toArray⟩ := by apply ba_ext; simp
          simp only [this] at hih
          exact hih
theorem text_f (t : ByteArray) (ht : t.size ≤ 4000000) (n : Nat) : Ev (fun k => graverref03_Text.f k t (n : Int)) (tx t.data.toList n) := by
  unfold tx
  by_cases h : n ≤ t.size
  · have := text_ev t ht (t.size - n) n ⟨#[]⟩ (by omega) (by show 0 + _ ≤ _; omega)
    cases hr : textR (t.data.toList.drop n) with
    | none => rw [hr] at this; exact this
    | some s =>
      rw [hr] at this
      have h2 : (⟨#[]⟩ : ByteArray) ++ ⟨s.toArray⟩ = ⟨s.toArray⟩ := by apply ba_ext; simp
      simp only [h2] at this
      exact this
  · rw [List.drop_of_length_le (by rw [ba_len]; omega)]
    refine Ev.step (f := fun _ => some ((⟨#[]⟩ : ByteArray), false)) (fun k => ?_) (Ev.now _)
    simp only [graverref03_Text.f, graverref03_Text.l0]
    rw [u64w (by omega) (by omega), if_neg (by omega)]
def rightB (l : List UInt8) : Bool := l.isEmpty || (Lib.hasPrefix l [0] && Lib.hasSuffix l [0])
theorem right_f (t : ByteArray) (ht : t.size ≤ 4000000) : strtab_Right.f t = some (rightB t.data.toList) := by
  unfold strtab_Right.f rightB strings_HasPrefix.f strings_HasSuffix.f
  rw [Lib.toList_data]
  by_cases h : t.data.toList = []
  · rw [if_pos h, h]; rfl
  · rw [if_neg h, if_pos (by omega), show t.data.toList.isEmpty = false from Bool.eq_false_iff.2 (fun h2 => h (List.isEmpty_iff.1 h2))]
    cases Lib.hasPrefix t.data.toList [0] <;> simp
/-- A table has a name here. -/
def Q (l n : List UInt8) (i : Nat) : Prop := textR (l.drop i) = some n
theorem q_far (l n : List UInt8) (i : Nat) (h : l.length ≤ i) : ¬ Q l n i := by
  unfold Q; rw [List.drop_of_length_le h]; intro h; cases h
def Inv (l n : List UInt8) (i : Nat) (x9 : Int) (x10 : Bool) : Prop :=
  (x10 = false ∧ x9 = 0 ∧ ∀ j, i ≤ j → ¬ Q l n j) ∨ (x10 = true ∧ ∃ m : Nat, i ≤ m ∧ x9 = (m : Int) ∧ Q l n m ∧ ∀ j, i ≤ j → j < m → ¬ Q l n j)
theorem find_f (X N : ByteArray) (hX : X.size ≤ 4000000) (hN : N.size ≤ 4000000) (x9 : Int) (x10 : Bool) (h : Inv X.data.toList N.data.toList 0 x9 x10) : strtab_Find.f X N = some (x9, x10) := by
  unfold strtab_Find.f strings_Contains.f strings_Index.f
  rw [if_pos rfl, Option.bind_some]
  by_cases hd : darkB N = true
  · rw [if_pos hd]
    have h0 := (dark_iff N).1 hd
    rcases h with ⟨rfl, rfl, _⟩ | ⟨_, m, _, _, hq, _⟩
    · rfl
    · exact absurd h0 ((textR_iff _ _).1 hq).1
  · rw [if_neg hd, if_pos (by omega), if_pos (by omega), Option.bind_some]
    have h0 : (0 : UInt8) ∉ N.data.toList := fun h => hd ((dark_iff N).2 h)
    have hq : ∀ j, Q X.data.toList N.data.toList j ↔ Lib.occAt X.data.toList (N.data.toList ++ [0]) j = true := fun j => by
      unfold Q Lib.occAt; rw [textR_iff]; simp [h0]
    rw [show (N ++ (⟨#[0]⟩ : ByteArray)).data.toList = N.data.toList ++ [0] by rw [cat0]]
    rcases Lib.index_spec X.data.toList (N.data.toList ++ [0]) with ⟨hz, hno⟩ | ⟨i, hz, hi, ho, hf⟩
    · rw [hz]
      rcases h with ⟨rfl, rfl, _⟩ | ⟨_, m, _, _, hq2, _⟩
      · rfl
      · exfalso
        have h2 := (hq m).1 hq2
        rcases Nat.lt_or_ge X.data.toList.length m with h3 | h3
        · exact q_far _ _ m (by omega) hq2
        · rw [hno m h3] at h2; cases h2
    · rw [hz]
      have hqi := (hq i).2 ho
      rcases h with ⟨rfl, rfl, hall⟩ | ⟨rfl, m, _, rfl, hq2, hmin⟩
      · exact absurd hqi (hall i (Nat.zero_le _))
      · obtain rfl : m = i := by
          rcases Nat.lt_trichotomy m i with h3 | h3 | h3
          · have h4 := (hq m).1 hq2
            rw [hf m h3] at h4; cases h4
          · exact h3
          · exact absurd hqi (hmin i (Nat.zero_le _) h3)
        have hlx := ba_len X
        have : mx (m : Int) 0 = (m : Int) := by unfold mx; rw [if_neg (by omega)]
        rw [this, u64w (by omega) (by omega), decide_eq_true (by omega)]
theorem textR_append : ∀ (d e s : List UInt8), textR d = some s → textR (d ++ e) = some s
  | [], e, s, h => by cases h
  | b :: r, e, s, h => by
    unfold textR at h
    rw [List.cons_append]
    unfold textR
    by_cases hb : b = 0
    · rw [if_pos hb] at h ⊢; exact h
    · rw [if_neg hb] at h ⊢
      cases hr : textR r with
      | none => rw [hr] at h; cases h
      | some x => rw [textR_append r e x hr]; rw [hr] at h; exact h
theorem tx_drop_append (l e : List UInt8) (n : Nat) (s : List UInt8) (h : textR (l.drop n) = some s) : textR ((l ++ e).drop n) = some s := by
  rcases Nat.le_total n l.length with hn | hn
  · rw [List.drop_append_of_le_length hn]; exact textR_append _ _ _ h
  · rw [List.drop_of_length_le hn] at h; cases h
theorem textR_self (n : List UInt8) (h : (0 : UInt8) ∉ n) : textR (n ++ [0]) = some n := (textR_iff _ _).2 ⟨h, by simp⟩
end Go.Proofs.YtolgilamchadfaaX.Ad

/- Plain laws: StrtabTexts comes to true; its walk. -/
import Derived.Test.YtolgilamchadfaaDoorXTxP03A
import Derived.Test.YtolgilamchadfaaDoorStrE
namespace Go.Proofs.YtolgilamchadfaaDoorX.Tx
set_option linter.unusedVariables false
set_option linter.unusedSimpArgs false
open Go.RowKit Go.Proofs.YtolgilamchadfaaDoor Go.Proofs.YtolgilamchadfaaDoorW.PrintWords Go.Proofs.YtolgilamchadfaaDoorW.PrintLast Go.Proofs.YtolgilamchadfaaDoorW.PrintMore

theorem u64w {x : Int} (h0 : 0 ≤ x) (h1 : x ≤ 18446744073709551615) : IntKind.u64.wrap x = x := by rw [IntKind.wrap_u64]; omega
theorem ba_len (t : ByteArray) : t.data.toList.length = t.size := by rw [Array.length_toList]; rfl
theorem ba_ext {s t : ByteArray} (h : s.data.toList = t.data.toList) : s = t := by
  cases s; cases t; congr; exact Array.ext' h
theorem bt_list (t : ByteArray) (n : Nat) (h : n < t.data.toList.length) : bt t (n : Int) = ((t.data.toList[n]).toNat : Int) := by
  have h2 : n < t.size := by rw [ba_len] at h; exact h
  unfold bt
  rw [dif_pos (by simpa using h2)]
  congr 1
theorem drop_one (t : ByteArray) (n : Nat) (h : n < t.data.toList.length) : t.extract n (n + 1) = ⟨#[t.data.toList[n]]⟩ := by
  apply ba_ext
  rw [ByteArray.data_extract]
  simp only [Array.toList_extract]
  rw [List.extract_eq_take_drop]
  have := List.drop_eq_getElem_cons h
  rw [this, show n + 1 - n = 1 by omega]
  rfl
def tx (l : List UInt8) (n : Nat) : ByteArray × Bool := match textR (l.drop n) with
  | some s => (⟨s.toArray⟩, true)
  | none => (⟨#[]⟩, false)
theorem text_ev (t : ByteArray) (ht : t.size ≤ 4000000) : ∀ d n (acc : ByteArray), n + d = t.size → acc.size + d ≤ 8000000 → Ev (fun k => graverref03_Text.l0 k t acc (n : Int)) (match textR (t.data.toList.drop n) with | some s => (acc ++ ⟨s.toArray⟩, true) | none => (⟨#[]⟩, false)) := by
  intro d
  induction d with
  | zero =>
    intro n acc hn ha
    rw [List.drop_of_length_le (by rw [ba_len]; omega)]
    refine Ev.step (f := fun _ => some ((⟨#[]⟩ : ByteArray), false)) (fun k => ?_) (Ev.now _)
    simp only [graverref03_Text.l0]
    rw [u64w (by omega) (by omega), if_neg (by omega)]
  | succ d ih =>
    intro n acc hn ha
    have hl : n < t.data.toList.length := by rw [ba_len]; omega
    have hb := bt_list t n hl
    have he := drop_one t n hl
    rw [List.drop_eq_getElem_cons hl]
    obtain ⟨b, hbb⟩ : ∃ b, b = t.data.toList[n] := ⟨_, rfl⟩
    rw [← hbb] at hb he ⊢
    unfold textR
    by_cases h0 : b = 0
    · subst h0
      rw [if_pos rfl]
      refine Ev.step (f := fun _ => some (acc, true)) (fun k => ?_) ?_
      · simp only [graverref03_Text.l0]
        rw [u64w (by omega) (by omega), if_pos (by omega), if_pos (by omega), if_pos (by omega), if_pos (by rw [hb]; rfl)]
      · have : acc ++ (⟨([] : List UInt8).toArray⟩ : ByteArray) = acc := by apply ba_ext; simp
        simp only [this]
        exact Ev.now _
    · rw [if_neg h0]
      have hih := ih (n + 1) (acc ++ ⟨#[b]⟩) (by omega) (by rw [ByteArray.size_append]; show acc.size + 1 + d ≤ _; omega)
      refine Ev.step (f := fun k => graverref03_Text.l0 k t (acc ++ ⟨#[b]⟩) ((n + 1 : Nat) : Int)) (fun k => ?_) ?_
      · have hne : ¬ bt t (n : Int) = 0 := by
          rw [hb]
          intro h
          exact h0 (UInt8.toNat_inj.1 (by simpa using h))
        simp only [graverref03_Text.l0]
        rw [u64w (x := (t.size : Int)) (by omega) (by omega), u64w (x := (n : Int) + 1) (by omega) (by omega), if_pos (by omega), if_pos (by omega), if_pos (by omega), if_neg hne, if_pos (by omega), if_pos (by omega)]
        rw [show ((n : Int) + 1).toNat = n + 1 by omega, Int.toNat_natCast, he, if_pos (by show acc.size + 1 ≤ _; omega)]
        rfl
      · cases hr : textR (t.data.toList.drop (n + 1)) with
        | none => rw [hr] at hih; exact hih
        | some s =>
          rw [hr] at hih
          have : acc ++ (⟨#[b]⟩ : ByteArray) ++ ⟨s.toArray⟩ = acc ++ ⟨(b :: s).toArray⟩ := by apply ba_ext; simp
          simp only [this] at hih
          exact hih
theorem text_f (t : ByteArray) (ht : t.size ≤ 4000000) (n : Nat) : Ev (fun k => graverref03_Text.f k t (n : Int)) (tx t.data.toList n) := by
  unfold tx
  by_cases h : n ≤ t.size
  · have := text_ev t ht (t.size - n) n ⟨#[]⟩ (by omega) (by show 0 + _ ≤ _; omega)
    cases hr : textR (t.data.toList.drop n) with
    | none => rw [hr] at this; exact this
    | some s =>
      rw [hr] at this
      have h2 : (⟨#[]⟩ : ByteArray) ++ ⟨s.toArray⟩ = ⟨s.toArray⟩ := by apply ba_ext; simp
      simp only [h2] at this
      exact this
  · rw [List.drop_of_length_le (by rw [ba_len]; omega)]
    refine Ev.step (f := fun _ => some ((⟨#[]⟩ : ByteArray), false)) (fun k => ?_) (Ev.now _)
    simp only [graverref03_Text.f, graverref03_Text.l0]
    rw [u64w (by omega) (by omega), if_neg (by omega)]
def rightB (l : List UInt8) : Bool := l.isEmpty || (Lib.hasPrefix l [0] && Lib.hasSuffix l [0])
theorem right_f (t : ByteArray) (ht : t.size ≤ 4000000) : strtab_Right.f t = some (rightB t.data.toList) := by
  unfold strtab_Right.f rightB strings_HasPrefix.f strings_HasSuffix.f
  rw [Lib.toList_data]
  by_cases h : t.data.toList = []
  · rw [if_pos h, h]; rfl
  · rw [if_neg h, if_pos (by omega), show t.data.toList.isEmpty = false from Bool.eq_false_iff.2 (fun h2 => h (List.isEmpty_iff.1 h2))]
    cases Lib.hasPrefix t.data.toList [0] <;> simp
theorem tx_some {l : List UInt8} {n : Nat} {s : List UInt8} (h : textR (l.drop n) = some s) : tx l n = (⟨s.toArray⟩, true) := by unfold tx; rw [h]
theorem tx_none {l : List UInt8} {n : Nat} (h : textR (l.drop n) = none) : tx l n = (⟨#[]⟩, false) := by unfold tx; rw [h]
theorem index_zero : ∀ d : List UInt8, (∀ s, textR d = some s → Lib.index d [0] = (s.length : Int) ∧ d.take s.length = s) ∧ (textR d = none → Lib.index d [0] = -1)
  | [] => ⟨(fun s h => by cases h), (fun _ => rfl)⟩
  | b :: r => by
    obtain ⟨ih1, ih2⟩ := index_zero r
    unfold Lib.index textR
    by_cases hb : b = 0
    · subst hb
      rw [if_pos rfl]
      exact ⟨(fun s h => by cases h; exact ⟨rfl, rfl⟩), (fun h => by cases h)⟩
    · rw [if_neg hb]
      have hp : ([0] : List UInt8).isPrefixOf (b :: r) = false := by
        simp only [List.isPrefixOf, Bool.and_true, beq_eq_false_iff_ne, ne_eq]
        exact fun h => hb h.symm
      rw [hp]
      cases hr : textR r with
      | none =>
        refine ⟨(fun s h => by cases h), fun _ => ?_⟩
        rw [ih2 hr]
        rfl
      | some x =>
        refine ⟨fun s h => ?_, (fun h => by cases h)⟩
        obtain ⟨h1, h2⟩ := ih1 x hr
        simp only [Option.map_some, Option.some.injEq] at h
        subst h
        rw [h1]
        have : ((x.length : Int) == -1) = false := beq_eq_false_iff_ne.2 (by omega)
        rw [this]
        refine ⟨by simp, ?_⟩
        rw [List.length_cons, List.take_succ_cons, h2]
theorem ext_end (t : ByteArray) (n : Nat) : (t.extract n t.size).data.toList = t.data.toList.drop n := by
  rw [ByteArray.data_extract]
  simp only [Array.toList_extract]
  rw [List.extract_eq_take_drop, List.take_of_length_le]
  rw [List.length_drop, ba_len]
  exact Nat.le_refl _
theorem text_t (t : ByteArray) (ht : t.size ≤ 4000000) (n : Nat) : strtab_Text.f t (n : Int) = some (tx t.data.toList n) := by
  unfold strtab_Text.f
  rw [u64w (by omega) (by omega)]
  by_cases h : t.size ≤ n
  · rw [if_pos (by omega), tx_none (by rw [List.drop_of_length_le (by rw [ba_len]; exact h)]; rfl)]
  · rw [if_neg (by omega), if_pos (by omega), if_pos (by omega), Int.toNat_natCast]
    unfold strings_Cut.f
    rw [if_pos (by rw [ByteArray.size_extract]; omega), Option.bind_some, ext_end]
    obtain ⟨h1, h2⟩ := index_zero (t.data.toList.drop n)
    cases hr : textR (t.data.toList.drop n) with
    | none =>
      have hc : Lib.cut (t.data.toList.drop n) (⟨#[0]⟩ : ByteArray).data.toList = (t.data.toList.drop n, [], false) := by
        unfold Lib.cut
        rw [show (⟨#[0]⟩ : ByteArray).data.toList = [0] from rfl, h2 hr, if_neg (by decide)]
      rw [hc, tx_none hr]
      rfl
    | some s =>
      obtain ⟨h3, h4⟩ := h1 s hr
      have hc : Lib.cut (t.data.toList.drop n) (⟨#[0]⟩ : ByteArray).data.toList = (s, (t.data.toList.drop n).drop (s.length + 1), true) := by
        unfold Lib.cut
        rw [show (⟨#[0]⟩ : ByteArray).data.toList = [0] from rfl, h3, if_pos (by omega), Int.toNat_natCast, h4]
        rfl
      rw [hc, tx_some hr]
      rfl
theorem rd_el (l : List ByteArray) (i : Nat) : rdOf ByteArray.empty l (i : Int) = el l i := by
  unfold rdOf el
  rfl
theorem l0_ev (X : ByteArray) (hX : X.size ≤ 300) (l : List ByteArray) (hl : l.length ≤ 1000) : ∀ d i (acc : ByteArray), i + d = l.length → acc.data.toList ++ joined (l.drop i) = X.data.toList → Ev (fun k => graverlaw03_StrtabTexts.l0 k X l acc (i : Int)) true := by
  intro d
  induction d with
  | zero =>
    intro i acc hi ha
    refine Ev.step (f := fun _ => some true) (fun k => ?_) (Ev.now _)
    simp only [graverlaw03_StrtabTexts.l0]
    rw [if_neg (by omega), Lib.toList_data, Lib.toList_data, ← ha, List.drop_of_length_le (by omega)]
    simp [joined]
  | succ d ih =>
    intro i acc hi ha
    have hil : i < l.length := by omega
    rw [List.drop_eq_getElem_cons hil] at ha
    obtain ⟨s, hs⟩ : ∃ s, s = l[i] := ⟨_, rfl⟩
    have hel : el l i = s := by unfold el; rw [List.getElem?_eq_getElem hil, hs]; rfl
    rw [← hs] at ha
    have hj : joined (s :: l.drop (i + 1)) = (s.data.toList ++ [0]) ++ joined (l.drop (i + 1)) := by unfold joined; rw [List.flatMap_cons]
    rw [hj] at ha
    have hlen := congrArg List.length ha
    rw [List.length_append, List.length_append, List.length_append, ba_len, ba_len, ba_len, List.length_singleton] at hlen
    have hs2 : (s ++ (⟨#[0]⟩ : ByteArray)).size = s.size + 1 := by rw [ByteArray.size_append]; rfl
    refine Ev.step (f := fun k => graverlaw03_StrtabTexts.l0 k X l (acc ++ (s ++ ⟨#[0]⟩)) ((i + 1 : Nat) : Int)) (fun k => ?_) (ih (i + 1) _ (by omega) ?_)
    · simp only [graverlaw03_StrtabTexts.l0]
      rw [if_pos (by omega), if_pos (by omega), rd_el, hel, if_pos (by omega), if_pos (by omega), wrap_up i (by omega)]
    · rw [← ha]; simp
/-- what All tells -/
def allL (X : ByteArray) : List ByteArray := if X.data.toList = [] then [] else if rightB X.data.toList = true then Lib.splitB ⟨#[0]⟩ 0 (Lib.countB ⟨(Lib.trimSuffix X.data.toList [0]).toArray⟩ ⟨#[0]⟩) ⟨(Lib.trimSuffix X.data.toList [0]).toArray⟩ else []
theorem trim_le (l p : List UInt8) : (Lib.trimSuffix l p).length ≤ l.length := by
  unfold Lib.trimSuffix; split
  · rw [List.length_take]; omega
  · exact Nat.le_refl _
theorem all_ev (X : ByteArray) (hX : X.size ≤ 300) : Ev (fun k => strtab_All.f k X) (allL X) := by
  have hR := right_f X (by omega)
  unfold allL
  by_cases h0 : X.data.toList = []
  · rw [if_pos h0]
    refine Ev.step (f := fun _ => some []) (fun k => ?_) (Ev.now _)
    unfold strtab_All.f
    rw [Lib.toList_data, if_pos h0]
    simp only [strtab_All.j0]
    rw [if_pos trivial]
  · rw [if_neg h0]
    by_cases hr : rightB X.data.toList = true
    · rw [if_pos hr]
      have ht := trim_le X.data.toList [0]
      have hl := ba_len X
      refine Ev.step (f := fun _ => some (Lib.splitB ⟨#[0]⟩ 0 (Lib.countB ⟨(Lib.trimSuffix X.data.toList [0]).toArray⟩ ⟨#[0]⟩) ⟨(Lib.trimSuffix X.data.toList [0]).toArray⟩)) (fun k => ?_) (Ev.now _)
      unfold strtab_All.f
      rw [Lib.toList_data, if_neg h0, hR, hr, Option.bind_some]
      simp only [strtab_All.j0]
      unfold strings_TrimSuffix.f strings_Split.f
      rw [if_neg (by decide), if_pos (by omega), Option.bind_some, if_pos ⟨by show (Lib.trimSuffix X.data.toList [0]).length < _; omega, by decide⟩, Option.bind_some]
    · rw [if_neg hr]
      refine Ev.step (f := fun _ => some []) (fun k => ?_) (Ev.now _)
      unfold strtab_All.f
      rw [Lib.toList_data, if_neg h0, hR, Bool.eq_false_iff.2 hr, Option.bind_some]
      simp only [strtab_All.j0]
      rw [if_pos (by decide)]
theorem all_joined (X : ByteArray) (h0 : X.data.toList ≠ []) (hr : rightB X.data.toList = true) : joined (allL X) = X.data.toList := by
  unfold allL
  rw [if_neg h0, if_pos hr, split_joined _ _ rfl]
  show Lib.trimSuffix X.data.toList [0] ++ [0] = _
  unfold rightB at hr
  rw [Bool.or_eq_true, Bool.and_eq_true] at hr
  rcases hr with hr | ⟨_, hr⟩
  · exact absurd (List.isEmpty_iff.1 hr) h0
  · unfold Lib.trimSuffix
    rw [if_pos hr]
    unfold Lib.hasSuffix at hr
    rw [List.isSuffixOf_iff_suffix] at hr
    obtain ⟨q, hq⟩ := hr
    rw [← hq]
    simp
theorem all_len (X : ByteArray) (hX : X.size ≤ 300) : (allL X).length ≤ 1000 := by
  by_cases h0 : X.data.toList = []
  · unfold allL; rw [if_pos h0]; simp
  · by_cases hr : rightB X.data.toList = true
    · have hj := congrArg List.length (all_joined X h0 hr)
      have : ∀ l : List ByteArray, l.length ≤ (joined l).length := by
        intro l
        induction l with
        | nil => simp
        | cons x r ih => unfold joined at ih ⊢; rw [List.flatMap_cons, List.length_append, List.length_append, List.length_cons, List.length_singleton]; omega
      have h2 := this (allL X)
      rw [ba_len] at hj
      omega
    · unfold allL; rw [if_neg h0, if_neg hr]; simp
theorem rest_ev (X : ByteArray) (hX : X.size ≤ 300) (u : ByteArray × Bool) : Ev (fun k => graverlaw03_StrtabTexts.j0 k X u.1 u.2 u.1 u.2 (rightB X.data.toList)) true := by
  have hR := right_f X (by omega)
  obtain ⟨K1, h1⟩ := all_ev X hX
  have hfin : Ev (fun k => graverlaw03_StrtabTexts.j1 k X (rightB X.data.toList) (allL X) false) true := by
    by_cases hr : rightB X.data.toList = true
    · rw [hr]
      by_cases h0 : X.data.toList = []
      · refine Ev.step (f := fun k => graverlaw03_StrtabTexts.j2 k X (allL X) true) (fun k => ?_) (Ev.step (f := fun _ => some true) (fun k => ?_) (Ev.now _))
        · simp only [graverlaw03_StrtabTexts.j1]
          rw [if_neg (by decide), if_pos trivial, Lib.toList_data, h0]
          rfl
        · simp only [graverlaw03_StrtabTexts.j2]
          rw [if_pos trivial]
          unfold allL; rw [if_pos h0]; rfl
      · refine Ev.step (f := fun k => graverlaw03_StrtabTexts.j2 k X (allL X) false) (fun k => ?_) (Ev.step (f := fun k => graverlaw03_StrtabTexts.l0 k X (allL X) ⟨#[]⟩ 0) (fun k => ?_) (l0_ev X hX (allL X) (all_len X hX) (allL X).length 0 ⟨#[]⟩ (by omega) ?_))
        · simp only [graverlaw03_StrtabTexts.j1]
          rw [if_neg (by decide), if_pos trivial, Lib.toList_data, show (X.data.toList == []) = false from beq_eq_false_iff_ne.2 h0]
        · simp only [graverlaw03_StrtabTexts.j2]
          rw [if_neg (by decide)]
        · rw [List.drop_zero, all_joined X h0 hr]; rfl
    · rw [Bool.eq_false_iff.2 hr]
      refine Ev.step (f := fun k => graverlaw03_StrtabTexts.j2 k X (allL X) true) (fun k => ?_) (Ev.step (f := fun _ => some true) (fun k => ?_) (Ev.now _))
      · simp only [graverlaw03_StrtabTexts.j1]
        rw [if_neg (by decide), if_neg (by decide)]
      · simp only [graverlaw03_StrtabTexts.j2]
        rw [if_pos trivial]
        have : allL X = [] := by
          unfold allL
          split
          · rfl
          · rfl
        rw [this]; rfl
  obtain ⟨K2, h2⟩ := hfin
  refine ⟨K1 + K2 + 1, fun k hk => ?_⟩
  obtain ⟨k', rfl⟩ : ∃ k', k = k' + 1 := ⟨k - 1, by omega⟩
  have g1 := h1 k' (by omega)
  have g2 := h2 k' (by omega)
  simp only [] at g1 g2
  simp only [graverlaw03_StrtabTexts.j0]
  rw [g1, Option.bind_some, if_pos trivial, if_neg (by simp), hR, Option.bind_some]
  simp only [bne_self_eq_false]
  exact g2
theorem last_zero (X : ByteArray) (h : 0 < X.size) : (bt X ((X.size : Int) - 1) == 0) = Lib.hasSuffix X.data.toList [0] := by
  have hl : X.size - 1 < X.data.toList.length := by rw [ba_len]; omega
  have hb := bt_list X (X.size - 1) hl
  rw [show ((X.size : Int) - 1) = ((X.size - 1 : Nat) : Int) by omega, hb, Bool.eq_iff_iff]
  unfold Lib.hasSuffix
  rw [List.isSuffixOf_iff_suffix, List.suffix_iff_eq_drop, beq_iff_eq]
  have h2 : X.data.toList.drop (X.data.toList.length - [(0 : UInt8)].length) = [X.data.toList[X.size - 1]] := by
    rw [ba_len, List.length_singleton, List.drop_eq_getElem_cons hl, List.drop_of_length_le (by rw [ba_len]; omega)]
  rw [h2]
  generalize X.data.toList[X.size - 1] = c
  constructor
  · intro h3
    have : c = 0 := UInt8.toNat_inj.1 (by simpa using h3)
    rw [this]
  · intro h3
    have : c = 0 := by injection h3 with h3; exact h3.symm
    rw [this]; rfl
theorem first_zero (X : ByteArray) (h : 0 < X.size) : (bt X 0 = 0) ↔ Lib.hasPrefix X.data.toList [0] = true := by
  have hl : 0 < X.data.toList.length := by rw [ba_len]; omega
  have hb := bt_list X 0 hl
  rw [show ((0 : Nat) : Int) = 0 from rfl] at hb
  obtain ⟨c, r, hx⟩ := List.exists_cons_of_ne_nil (List.ne_nil_of_length_pos hl)
  have hb2 : bt X 0 = (c.toNat : Int) := by rw [hb]; simp only [hx, List.getElem_cons_zero]
  rw [hb2, hx]
  unfold Lib.hasPrefix
  simp only [List.isPrefixOf, Bool.and_true, beq_iff_eq]
  constructor
  · intro h3; exact (UInt8.toNat_inj.1 (by simpa using h3 : c.toNat = (0 : UInt8).toNat)).symm
  · intro h3; rw [← h3]; rfl
theorem texts_ev (t : ByteArray) (a : Nat) : Ev (fun k => graverlaw03_StrtabTexts.f k t (a : Int)) true := by
  obtain ⟨i, hi, hi2, hi3⟩ : ∃ i : Nat, mn (t.size : Int) 300 = (i : Int) ∧ i ≤ 300 ∧ i ≤ t.size := ⟨min t.size 300, by unfold mn; split <;> omega, by omega, by omega⟩
  obtain ⟨X, hX⟩ : ∃ X, X = t.extract 0 i := ⟨_, rfl⟩
  have hs : X.size ≤ 300 := by rw [hX, ByteArray.size_extract]; omega
  have e1 := text_t X (by omega) a
  obtain ⟨K1, h1⟩ := text_f X (by omega) a
  obtain ⟨K2, h2⟩ := rest_ev X hs (tx X.data.toList a)
  refine ⟨K1 + K2, fun k hk => ?_⟩
  have g1 := h1 k (by omega)
  have g2 := h2 k (by omega)
  simp only [] at g1 g2
  show graverlaw03_StrtabTexts.f k t (a : Int) = some true
  unfold graverlaw03_StrtabTexts.f
  rw [speaks_ev, Option.bind_some, if_pos rfl, hi, if_pos (by omega), if_pos (by omega), Int.toNat_natCast, ← hX, e1, Option.bind_some, g1, Option.bind_some, Lib.toList_data]
  by_cases h0 : X.data.toList = []
  · rw [if_pos h0]
    have : rightB X.data.toList = true := by unfold rightB; rw [h0]; rfl
    rw [this] at g2
    exact g2
  · have hpos : 0 < X.size := by
      rw [← ba_len]
      exact List.length_pos_iff.2 h0
    have hfz := first_zero X hpos
    have hlz := last_zero X hpos
    have hne : X.data.toList.isEmpty = false := Bool.eq_false_iff.2 (fun h => h0 (List.isEmpty_iff.1 h))
    rw [if_neg h0, if_pos (by omega)]
    by_cases hf : bt X 0 = 0
    · rw [if_pos hf, wrap_s (by omega) (by omega), if_pos (by omega), if_pos (by omega), hlz]
      have : rightB X.data.toList = Lib.hasSuffix X.data.toList [0] := by unfold rightB; rw [hne, hfz.1 hf]; rfl
      rw [this] at g2
      exact g2
    · rw [if_neg hf]
      have : rightB X.data.toList = false := by
        unfold rightB
        rw [hne, Bool.eq_false_iff.2 (fun h => hf (hfz.2 h))]; rfl
      rw [this] at g2
      exact g2
end Go.Proofs.YtolgilamchadfaaDoorX.Tx
namespace Go.Proofs.YtolgilamchadfaaDoor
open Go.RowKit Go.Proofs.YtolgilamchadfaaDoorX.Tx Go.Proofs.YtolgilamchadfaaDoorW.PrintWords
theorem texts_walk (x0 : ByteArray) (x1 : Int) (h1 : 0 ≤ x1) (W : World) (hsh : W.ShapedOpen Tryd.prog) :
    Calls Tryd.prog 4 #[.string x0, .int .u64 x1] W fun e w' => e = .returned (.bool true) ∧ Below W.heap.size W w' := by
  obtain ⟨k, hk⟩ := (texts_ev x0 x1.toNat).rounds
  rw [Int.toNat_of_nonneg h1] at hk
  exact graverlaw03_StrtabTexts.calls k x0 x1 true W (maxAt_of hsh) hk
end Go.Proofs.YtolgilamchadfaaDoor

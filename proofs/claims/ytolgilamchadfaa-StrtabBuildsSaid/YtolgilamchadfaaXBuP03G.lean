/- Plain laws: the document's table is Build's; texts by strings.Cut. -/
import Derived.Test.YtolgilamchadfaaXBuP03F
namespace Go.Proofs.YtolgilamchadfaaX.Bu
set_option linter.unusedVariables false
set_option linter.unusedSimpArgs false
open Go.RowKit Go.Proofs.Ytolgilamchadfaa Go.Proofs.YtolgilamchadfaaW.PrintWords Go.Proofs.YtolgilamchadfaaW.PrintLast Go.Proofs.YtolgilamchadfaaW.PrintMore

def tx (l : List UInt8) (n : Nat) : ByteArray × Bool := match textR (l.drop n) with
  | some s => (⟨s.toArray⟩, true)
  | none => (⟨#[]⟩, false)
theorem tx_some {l : List UInt8} {n : Nat} {s : List UInt8} (h : textR (l.drop n) = some s) : tx l n = (⟨s.toArray⟩, true) := by unfold tx; rw [h]
theorem tx_none {l : List UInt8} {n : Nat} (h : textR (l.drop n) = none) : tx l n = (⟨#[]⟩, false) := by unfold tx; rw [h]
theorem index_zero : ∀ d : List UInt8, (∀ s, textR d = some s → Lib.index d [0] = (s.length : Int) ∧ d.take s.length = s) ∧ (textR d = none → Lib.index d [0] = -1)
  | [] => ⟨(fun s h => by cases h), (fun _ => rfl)⟩
  | b :: r => by
    obtain ⟨ih1, ih2⟩ := index_zero r
    unfold Lib.index textR
    by_cases hb : b = 0
    · subst hb
      rw [if_pos rfl]
      exact ⟨(fun s h => by cases h; exact ⟨rfl, rfl⟩), (fun h => by cases h)⟩
    · rw [if_neg hb]
      have hp : ([0] : List UInt8).isPrefixOf (b :: r) = false := by
        simp only [List.isPrefixOf, Bool.and_true, beq_eq_false_iff_ne, ne_eq]
        exact fun h => hb h.symm
      rw [hp]
      cases hr : textR r with
      | none =>
        refine ⟨(fun s h => by cases h), fun _ => ?_⟩
        rw [ih2 hr]
        rfl
      | some x =>
        refine ⟨fun s h => ?_, (fun h => by cases h)⟩
        obtain ⟨h1, h2⟩ := ih1 x hr
        simp only [Option.map_some, Option.some.injEq] at h
        subst h
        rw [h1]
        have : ((x.length : Int) == -1) = false := beq_eq_false_iff_ne.2 (by omega)
        rw [this]
        refine ⟨by simp, ?_⟩
        rw [List.length_cons, List.take_succ_cons, h2]
theorem ext_end (t : ByteArray) (n : Nat) : (t.extract n t.size).data.toList = t.data.toList.drop n := by
  rw [ByteArray.data_extract]
  simp only [Array.toList_extract]
  rw [List.extract_eq_take_drop, List.take_of_length_le]
  rw [List.length_drop, ba_len]
  exact Nat.le_refl _
theorem text_t (t : ByteArray) (ht : t.size ≤ 4000000) (n : Nat) : strtab_Text.f t (n : Int) = some (tx t.data.toList n) := by
  unfold strtab_Text.f
  rw [u64w (by omega) (by omega)]
  by_cases h : t.size ≤ n
  · rw [if_pos (by omega), tx_none (by rw [List.drop_of_length_le (by rw [ba_len]; exact h)]; rfl)]
  · rw [if_neg (by omega), if_pos (by omega), if_pos (by omega), Int.toNat_natCast]
    unfold strings_Cut.f
    rw [if_pos (by rw [ByteArray.size_extract]; omega), Option.bind_some, ext_end]
    obtain ⟨h1, h2⟩ := index_zero (t.data.toList.drop n)
    cases hr : textR (t.data.toList.drop n) with
    | none =>
      have hc : Lib.cut (t.data.toList.drop n) (⟨#[0]⟩ : ByteArray).data.toList = (t.data.toList.drop n, [], false) := by
        unfold Lib.cut
        rw [show (⟨#[0]⟩ : ByteArray).data.toList = [0] from rfl, h2 hr, if_neg (by decide)]
      rw [hc, tx_none hr]
      rfl
    | some s =>
      obtain ⟨h3, h4⟩ := h1 s hr
      have hc : Lib.cut (t.data.toList.drop n) (⟨#[0]⟩ : ByteArray).data.toList = (s, (t.data.toList.drop n).drop (s.length + 1), true) := by
        unfold Lib.cut
        rw [show (⟨#[0]⟩ : ByteArray).data.toList = [0] from rfl, h3, if_pos (by omega), Int.toNat_natCast, h4]
        rfl
      rw [hc, tx_some hr]
      rfl
theorem ends_f (a b : ByteArray) (ha : a.size ≤ 4000000) (hb : b.size ≤ 4000000) : graverref03_ends.f a b = some (hid2 b a) := by
  have hla := ba_len a
  have hlb := ba_len b
  unfold graverref03_ends.f hid2 Lib.hasSuffix
  by_cases h : b.size < a.size
  · rw [if_pos (by omega), wrap_s (by omega) (by omega), if_pos (by omega), if_pos (by omega)]
    rw [show ((a.size : Int) - (b.size : Int)).toNat = a.size - b.size by omega, Lib.toList_data, Lib.toList_data, ext_end]
    have hne : (a.data.toList == b.data.toList) = false := by
      rw [beq_eq_false_iff_ne]
      intro e
      rw [e] at hla; omega
    rw [hne, Bool.not_false, Bool.true_and]
    congr 1
    rw [Bool.eq_iff_iff, List.isSuffixOf_iff_suffix, List.suffix_iff_eq_drop, hla, hlb, beq_iff_eq]
    exact eq_comm
  · rw [if_neg (by omega)]
    congr 1
    symm
    rw [Bool.and_eq_false_iff]
    by_cases hs : b.data.toList.isSuffixOf a.data.toList = true
    · rw [List.isSuffixOf_iff_suffix] at hs
      left
      have := List.IsSuffix.eq_of_length_le hs (by rw [hla, hlb]; omega)
      rw [this]
      simp
    · right; exact Bool.eq_false_iff.2 hs
theorem rd_el (l : List ByteArray) (i : Nat) : rdOf ByteArray.empty l (i : Int) = el l i := by
  unfold rdOf el
  rfl
/-- what the document's inner loop has found till a place -/
def skp (l : List ByteArray) (i j : Nat) : Bool := (List.range j).any (fun t => hid2 (el l i) (el l t) || (decide (i < t) && (el l t).data.toList == (el l i).data.toList))
theorem skp_succ (l : List ByteArray) (i j : Nat) : skp l i (j + 1) = (skp l i j || (hid2 (el l i) (el l j) || (decide (i < j) && (el l j).data.toList == (el l i).data.toList))) := by
  unfold skp
  rw [List.range_succ, List.any_append]
  simp
theorem skip_eq (l : List ByteArray) (i : Nat) (hi : i < l.length) : ((el l i).data.toList == [] || skp l i l.length) = !(!decide ((el l i).data.toList ∈ ((come l.length (l.length - 1 - i)).foldl (stepT2 l) ([0], [[]])).2) && !(l.any (hid2 (el l i)))) := by
  rw [Bool.not_and, Bool.not_not, Bool.not_not, seen_come, Bool.eq_iff_iff]
  simp only [Bool.or_eq_true, beq_iff_eq, decide_eq_true_eq, List.mem_append, List.mem_reverse, List.mem_map, List.mem_singleton]
  unfold skp
  rw [List.any_eq_true, List.any_eq_true]
  simp only [List.mem_range, Bool.or_eq_true, Bool.and_eq_true, decide_eq_true_eq, beq_iff_eq]
  constructor
  · rintro (h | ⟨t, ht, h | ⟨h1, h2⟩⟩)
    · exact .inl (.inr h)
    · exact .inr ⟨el l t, by rw [el_get l t ht]; exact List.getElem_mem ht, h⟩
    · exact .inl (.inl ⟨t, (mem_come _ _ _ (by omega)).2 ⟨by omega, ht, by omega⟩, h2⟩)
  · rintro ((⟨t, ht, h⟩ | h) | ⟨x, hx, h⟩)
    · rw [mem_come _ _ _ (by omega)] at ht
      exact .inr ⟨t, ht.2.1, .inr ⟨by omega, h⟩⟩
    · exact .inl h
    · obtain ⟨t, ht, rfl⟩ := List.mem_iff_getElem.1 hx
      exact .inr ⟨t, ht, .inl (by rw [el_get l t ht]; exact h)⟩
theorem el_le {l : List ByteArray} {M : Nat} (hM : ∀ s ∈ l, s.size ≤ M) (x : Nat) : (el l x).size ≤ M := el_size hM x
theorem rb_l1 (l : List ByteArray) (hl : l.length ≤ 1000) (hM : ∀ s ∈ l, s.size ≤ 1000) (X : ByteArray) (hX : X.size ≤ 4000000) (i : Nat) (hi : i < l.length) (R : ByteArray)
    (h1 : ((el l i).data.toList == [] || skp l i l.length) = true → Ev (fun k => graverref03_Build.l0 k l X ((i : Int) - 1)) R)
    (h2 : ((el l i).data.toList == [] || skp l i l.length) = false → Ev (fun k => graverref03_Build.l0 k l (X ++ (el l i ++ ⟨#[0]⟩)) ((i : Int) - 1)) R) :
    ∀ d j, j + d = l.length → Ev (fun k => graverref03_Build.l1 k l X (i : Int) ((el l i).data.toList == [] || skp l i j) (j : Int)) R := by
  have hsi := el_le hM i
  have hw : wrap64 ((i : Int) - 1) = (i : Int) - 1 := wrap_s (by omega) (by omega)
  intro d
  induction d with
  | zero =>
    intro j hj
    obtain rfl : j = l.length := by omega
    cases hsk : ((el l i).data.toList == [] || skp l i l.length)
    · refine Ev.step (fun k => ?_) (h2 hsk)
      have hs : (X ++ (el l i ++ (⟨#[0]⟩ : ByteArray))).size = X.size + ((el l i).size + 1) := by rw [ByteArray.size_append, ByteArray.size_append]; rfl
      have hs2 : (el l i ++ (⟨#[0]⟩ : ByteArray)).size = (el l i).size + 1 := by rw [ByteArray.size_append]; rfl
      simp only [graverref03_Build.l1]
      rw [if_neg (by omega), if_neg (by decide), if_pos (by omega), if_pos (by omega), rd_el, if_pos (by omega), if_pos (by omega), hw]
    · refine Ev.step (fun k => ?_) (h1 hsk)
      simp only [graverref03_Build.l1]
      rw [if_neg (by omega), if_pos trivial, hw]
  | succ d ih =>
    intro j hj
    have hsj := el_le hM j
    have := ih (j + 1) (by omega)
    rw [skp_succ, ← Bool.or_assoc] at this
    refine Ev.step (fun k => ?_) this
    simp only [graverref03_Build.l1]
    rw [if_pos (by omega), if_pos (by omega), if_pos (by omega), if_pos (by omega), rd_el, rd_el, ends_f _ _ (by omega) (by omega), Option.bind_some, wrap_up j (by omega)]
    cases hh : hid2 (el l i) (el l j)
    · rw [if_neg (by decide)]
      by_cases hij : i < j
      · rw [if_pos (by omega), Lib.toList_data, Lib.toList_data, decide_eq_true hij]
        by_cases he : (el l j).data.toList = (el l i).data.toList
        · rw [if_pos he, he]; simp
        · rw [if_neg he, show ((el l j).data.toList == (el l i).data.toList) = false from beq_eq_false_iff_ne.2 he]; simp
      · rw [if_neg (by omega), decide_eq_false hij]; simp
    · rw [if_pos rfl]; simp
theorem rb_l0 (l : List ByteArray) (hl : l.length ≤ 1000) (hM : ∀ s ∈ l, s.size ≤ 1000) : ∀ i, i ≤ l.length → Ev (fun k => graverref03_Build.l0 k l ⟨((come l.length (l.length - i)).foldl (stepT2 l) ([0], [[]])).1.toArray⟩ ((i : Int) - 1)) ⟨(tabT l).toArray⟩ := by
  intro i
  induction i with
  | zero =>
    intro _
    refine Ev.step (f := fun _ => some ⟨(tabT l).toArray⟩) (fun k => ?_) (Ev.now _)
    simp only [graverref03_Build.l0]
    rw [if_neg (by omega), Nat.sub_zero]
    unfold tabT
    rw [stT_eq]
  | succ i ih =>
    intro hi
    obtain ⟨S, hS⟩ : ∃ S, S = (come l.length (l.length - (i + 1))).foldl (stepT2 l) ([0], [[]]) := ⟨_, rfl⟩
    have hlen := stT_len hM (come l.length (l.length - (i + 1)))
    rw [stT_eq, ← hS, come_length] at hlen
    have hmul : (l.length - (i + 1)) * (1000 + 1) ≤ 1000 * 1001 := Nat.mul_le_mul (by omega) (by omega)
    have hsz : (⟨S.1.toArray⟩ : ByteArray).size ≤ 4000000 := by show S.1.length ≤ _; omega
    have hnext : (come l.length (l.length - i)).foldl (stepT2 l) ([0], [[]]) = stepT2 l S i := by
      rw [show l.length - i = (l.length - (i + 1)) + 1 by omega, come_succ, List.foldl_append, ← hS, show l.length - 1 - (l.length - (i + 1)) = i by omega]
      rfl
    have hsk := skip_eq l i (by omega)
    rw [show l.length - 1 - i = l.length - (i + 1) by omega, ← hS] at hsk
    have hih := ih (by omega)
    rw [hnext] at hih
    rw [← hS]
    have h0 := rb_l1 l hl hM ⟨S.1.toArray⟩ hsz i (by omega) ⟨(tabT l).toArray⟩ (fun h => by
      rw [hsk, Bool.not_eq_true'] at h
      unfold stepT2 at hih
      rw [h] at hih
      exact hih) (fun h => by
      rw [hsk, Bool.not_eq_false'] at h
      unfold stepT2 at hih
      rw [h] at hih
      have e : (⟨S.1.toArray⟩ : ByteArray) ++ (el l i ++ ⟨#[0]⟩) = ⟨(S.1 ++ ((el l i).data.toList ++ [0])).toArray⟩ := by apply ba_ext; simp
      rw [e]
      exact hih) l.length 0 (by omega)
    refine Ev.step (fun k => ?_) h0
    simp only [graverref03_Build.l0]
    rw [show ((i + 1 : Nat) : Int) - 1 = (i : Int) by omega, if_pos (by omega), if_pos (by omega), if_pos (by omega), rd_el, Lib.toList_data]
    congr 1
    unfold skp
    simp
theorem rb_ev (l : List ByteArray) (hl : l.length ≤ 1000) (hM : ∀ s ∈ l, s.size ≤ 1000) : Ev (fun k => graverref03_Build.f k l) ⟨(tabT l).toArray⟩ := by
  have := rb_l0 l hl hM l.length (Nat.le_refl _)
  rw [Nat.sub_self] at this
  refine Ev.congr (fun k => ?_) this
  unfold graverref03_Build.f
  rw [wrap_s (by omega) (by omega)]
  rfl
end Go.Proofs.YtolgilamchadfaaX.Bu

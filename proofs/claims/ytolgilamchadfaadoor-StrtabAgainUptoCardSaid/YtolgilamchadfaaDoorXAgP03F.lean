/- Plain laws: the table that Build makes: its beginning and end, that each name stands in it; texts by strings.Cut. -/
import Derived.Test.YtolgilamchadfaaDoorXAgP03A
namespace Go.Proofs.YtolgilamchadfaaDoorX.Ag
set_option linter.unusedVariables false
set_option linter.unusedSimpArgs false
open Go.RowKit Go.Proofs.YtolgilamchadfaaDoor Go.Proofs.YtolgilamchadfaaDoorW.PrintWords Go.Proofs.YtolgilamchadfaaDoorW.PrintLast Go.Proofs.YtolgilamchadfaaDoorW.PrintMore

theorem u64w {x : Int} (h0 : 0 ≤ x) (h1 : x ≤ 18446744073709551615) : IntKind.u64.wrap x = x := by rw [IntKind.wrap_u64]; omega
theorem ba_len (t : ByteArray) : t.data.toList.length = t.size := by rw [Array.length_toList]; rfl
theorem ba_ext {s t : ByteArray} (h : s.data.toList = t.data.toList) : s = t := by
  cases s; cases t; congr; exact Array.ext' h
/-- A name with the byte 0 behind it stands in a text. -/
def Occ (T s : List UInt8) : Prop := ∃ j, (s ++ [0]).isPrefixOf (T.drop j) = true
theorem occ_iff (T s : List UInt8) : Occ T s ↔ ∃ a b, T = a ++ (s ++ [0]) ++ b := by
  constructor
  · rintro ⟨j, h⟩
    rw [List.isPrefixOf_iff_prefix] at h
    obtain ⟨b, hb⟩ := h
    exact ⟨T.take j, b, by rw [List.append_assoc, hb, List.take_append_drop]⟩
  · rintro ⟨a, b, rfl⟩
    refine ⟨a.length, ?_⟩
    rw [List.append_assoc, List.drop_left, List.isPrefixOf_iff_prefix]
    exact List.prefix_append _ _
theorem occ_append {T s : List UInt8} (h : Occ T s) (r : List UInt8) : Occ (T ++ r) s := by
  obtain ⟨a, b, rfl⟩ := (occ_iff _ _).1 h
  exact (occ_iff _ _).2 ⟨a, b ++ r, by simp⟩
theorem occ_suffix {T p s : List UInt8} (h : Occ T (p ++ s)) : Occ T s := by
  obtain ⟨a, b, rfl⟩ := (occ_iff _ _).1 h
  exact (occ_iff _ _).2 ⟨a ++ p, b, by simp⟩
/-- The rounds only add to the text. -/
theorem fold_grows (l : List ByteArray) : ∀ (post : List Nat) (st : List UInt8 × List (List UInt8)), ∃ r, (post.foldl (stepT2 l) st).1 = st.1 ++ r ∧ (r = [] ∨ ∃ q, r = q ++ [0])
  | [], st => ⟨[], by simp, .inl rfl⟩
  | x :: post, st => by
    obtain ⟨r, hr, hz⟩ := fold_grows l post (stepT2 l st x)
    rw [List.foldl_cons, hr]
    unfold stepT2
    split
    · refine ⟨((el l x).data.toList ++ [0]) ++ r, by simp, .inr ?_⟩
      rcases hz with rfl | ⟨q, rfl⟩
      · exact ⟨(el l x).data.toList, by simp⟩
      · exact ⟨((el l x).data.toList ++ [0]) ++ q, by simp⟩
    · exact ⟨r, rfl, hz⟩
theorem come_two (n i : Nat) (hi : i < n) : ∃ post, come n n = come n (n - 1 - i) ++ i :: post := by
  refine ⟨(List.range' (n - i) i).map (fun t => n - 1 - t), ?_⟩
  unfold come
  rw [show i :: (List.range' (n - i) i).map (fun t => n - 1 - t) = (List.range' (n - 1 - i) (i + 1)).map (fun t => n - 1 - t) by
    rw [List.range'_succ, List.map_cons, show n - 1 - i + 1 = n - i by omega, show n - 1 - (n - 1 - i) = i by omega]]
  rw [← List.map_append]
  congr 1
  rw [List.range_eq_range', List.range_eq_range']
  have h := List.range'_append_1 (s := 0) (m := n - 1 - i) (n := i + 1)
  rw [Nat.zero_add] at h
  rw [h]
  congr 1
  omega
theorem seen_come (l : List ByteArray) (n : Nat) : ∀ k, ((come n k).foldl (stepT2 l) ([0], [[]])).2 = ((come n k).map (fun i => (el l i).data.toList)).reverse ++ [[]]
  | 0 => rfl
  | k + 1 => by
    rw [come_succ, List.foldl_append, List.map_append, List.reverse_append]
    have h2 : ∀ st i, (stepT2 l st i).2 = (el l i).data.toList :: st.2 := fun _ _ => rfl
    rw [List.foldl_cons, List.foldl_nil, h2, seen_come l n k]
    rfl
theorem mem_come (n k i : Nat) (hk : k ≤ n) : i ∈ come n k ↔ n - k ≤ i ∧ i < n ∧ 0 < k := by
  unfold come
  rw [List.mem_map]
  constructor
  · rintro ⟨t, ht, rfl⟩
    rw [List.mem_range] at ht
    omega
  · rintro ⟨h1, h2, h3⟩
    exact ⟨n - 1 - i, by rw [List.mem_range]; omega, by omega⟩
theorem el_get (l : List ByteArray) (i : Nat) (h : i < l.length) : el l i = l[i] := by unfold el; rw [List.getElem?_eq_getElem h]; rfl
/-- the table of names -/
def tabT (l : List ByteArray) : List UInt8 := (stT l (come l.length l.length)).1
theorem tabT_ends (l : List ByteArray) : ∃ q, tabT l = q ++ [0] := by
  unfold tabT
  rw [stT_eq]
  obtain ⟨r, hr, hz⟩ := fold_grows l (come l.length l.length) ([0], [[]])
  rw [hr]
  rcases hz with rfl | ⟨q, rfl⟩
  · exact ⟨[], rfl⟩
  · exact ⟨0 :: q, rfl⟩
theorem tabT_begins (l : List ByteArray) : ∃ q, tabT l = 0 :: q := by
  unfold tabT
  rw [stT_eq]
  obtain ⟨r, hr, hz⟩ := fold_grows l (come l.length l.length) ([0], [[]])
  rw [hr]
  exact ⟨r, rfl⟩
/-- Each name stands in the table. -/
theorem tabT_occ (l : List ByteArray) (M : Nat) (hM : ∀ s ∈ l, s.size ≤ M) : ∀ d, ∀ s ∈ l, s.size + d = M → Occ (tabT l) s.data.toList := by
  have key : ∀ s ∈ l, (∀ t ∈ l, s.size < t.size → Occ (tabT l) t.data.toList) → Occ (tabT l) s.data.toList := by
    intro s hs hlong
    by_cases h0 : s.data.toList = []
    · obtain ⟨q, hq⟩ := tabT_begins l
      rw [hq, h0]
      exact ⟨0, by simp⟩
    by_cases hh : l.any (hid2 s) = true
    · obtain ⟨t, ht, hst⟩ := List.any_eq_true.1 hh
      unfold hid2 at hst
      rw [Bool.and_eq_true, Bool.not_eq_true'] at hst
      obtain ⟨h1, h2⟩ := hst
      unfold Lib.hasSuffix at h2
      rw [List.isSuffixOf_iff_suffix] at h2
      obtain ⟨p, hp⟩ := h2
      have hlen : s.size < t.size := by
        have hl := congrArg List.length hp
        rw [List.length_append, ba_len, ba_len] at hl
        rcases Nat.eq_zero_or_pos p.length with h3 | h3
        · have : p = [] := List.eq_nil_of_length_eq_zero h3
          subst this
          rw [List.nil_append] at hp
          rw [hp] at h1
          simp at h1
        · omega
      have := hlong t ht hlen
      rw [← hp] at this
      exact occ_suffix this
    · -- the last one of the name
      have hex : ∃ i, i < l.length ∧ (el l i).data.toList = s.data.toList ∧ ∀ j, i < j → j < l.length → (el l j).data.toList ≠ s.data.toList := by
        obtain ⟨i, hi, his⟩ := List.mem_iff_getElem.1 hs
        have : ∀ d i, i + d = l.length → (∃ i0, i0 < l.length ∧ i0 ≤ i ∧ (el l i0).data.toList = s.data.toList ∧ (∀ j, i0 < j → j < i → (el l j).data.toList ≠ s.data.toList)) → ∃ i, i < l.length ∧ (el l i).data.toList = s.data.toList ∧ ∀ j, i < j → j < l.length → (el l j).data.toList ≠ s.data.toList := by
          intro d
          induction d with
          | zero =>
            rintro i hi ⟨i0, h1, h2, h3, h4⟩
            exact ⟨i0, h1, h3, fun j hj1 hj2 => h4 j hj1 (by omega)⟩
          | succ d ih =>
            rintro i hi ⟨i0, h1, h2, h3, h4⟩
            by_cases he : (el l i).data.toList = s.data.toList
            · exact ih (i + 1) (by omega) ⟨i, by omega, by omega, he, fun j hj1 hj2 => by omega⟩
            · refine ih (i + 1) (by omega) ⟨i0, h1, by omega, h3, fun j hj1 hj2 => ?_⟩
              rcases Nat.lt_or_ge j i with h5 | h5
              · exact h4 j hj1 h5
              · obtain rfl : j = i := by omega
                exact he
        exact this (l.length - i) i (by omega) ⟨i, hi, Nat.le_refl _, by rw [el_get l i hi, his], fun j hj1 hj2 => by omega⟩
      obtain ⟨i, hi, hie, hlast⟩ := hex
      obtain ⟨post, hpost⟩ := come_two l.length i hi
      unfold tabT
      rw [stT_eq, hpost, List.foldl_append, List.foldl_cons]
      obtain ⟨r, hr, _⟩ := fold_grows l post (stepT2 l (List.foldl (stepT2 l) ([0], [[]]) (come l.length (l.length - 1 - i))) i)
      rw [hr]
      refine occ_append ?_ r
      have hseen := seen_come l l.length (l.length - 1 - i)
      have hnot : s.data.toList ∉ ((come l.length (l.length - 1 - i)).foldl (stepT2 l) ([0], [[]])).2 := by
        rw [hseen, List.mem_append, List.mem_reverse, List.mem_map]
        rintro (⟨j, hj, hje⟩ | h)
        · rw [mem_come _ _ _ (by omega)] at hj
          exact hlast j (by omega) hj.2.1 hje
        · exact h0 (by simpa using h)
      have hany : l.any (hid2 (el l i)) = false := by
        have : el l i = s := ba_ext hie
        rw [this]
        exact Bool.eq_false_iff.2 hh
      obtain ⟨S, hS⟩ : ∃ S, S = List.foldl (stepT2 l) ([0], [[]]) (come l.length (l.length - 1 - i)) := ⟨_, rfl⟩
      rw [← hS] at hnot ⊢
      unfold stepT2
      rw [hie, hany, decide_eq_false hnot]
      exact (occ_iff _ _).2 ⟨S.1, [], by simp⟩
  intro d
  induction d using Nat.strongRecOn with
  | ind d ih =>
    intro s hs hd
    refine key s hs (fun t ht hlt => ?_)
    have := hM t ht
    exact ih (M - t.size) (by omega) t ht (by omega)
theorem tabT_has (l : List ByteArray) (M : Nat) (hM : ∀ s ∈ l, s.size ≤ M) (s : ByteArray) (hs : s ∈ l) : Occ (tabT l) s.data.toList :=
  tabT_occ l M hM (M - s.size) s hs (by have := hM s hs; omega)
end Go.Proofs.YtolgilamchadfaaDoorX.Ag

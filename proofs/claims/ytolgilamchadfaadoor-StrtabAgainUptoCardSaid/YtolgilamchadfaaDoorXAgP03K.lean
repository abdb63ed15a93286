/- Plain laws: which names a table keeps; its length hangs on these alone. -/
import Derived.Test.YtolgilamchadfaaDoorXAgP03F
import Derived.Test.YtolgilamchadfaaDoorStrF
namespace Go.Proofs.YtolgilamchadfaaDoorX.Ag
set_option linter.unusedVariables false
set_option linter.unusedSimpArgs false
open Go.RowKit Go.Proofs.YtolgilamchadfaaDoor Go.Proofs.YtolgilamchadfaaDoorW.PrintWords Go.Proofs.YtolgilamchadfaaDoorW.PrintLast Go.Proofs.YtolgilamchadfaaDoorW.PrintMore

/-- A text is hidden among texts: it is the end of another one. -/
def hidL (ls : List (List UInt8)) (s : List UInt8) : Prop := ∃ t ∈ ls, t ≠ s ∧ s <:+ t
theorem hid_any (l : List ByteArray) (s : ByteArray) : l.any (hid2 s) = true ↔ hidL (l.map (·.data.toList)) s.data.toList := by
  rw [List.any_eq_true]
  unfold hidL hid2 Lib.hasSuffix
  constructor
  · rintro ⟨t, ht, h⟩
    rw [Bool.and_eq_true, Bool.not_eq_true', beq_eq_false_iff_ne, List.isSuffixOf_iff_suffix] at h
    exact ⟨t.data.toList, List.mem_map.2 ⟨t, ht, rfl⟩, h.1, h.2⟩
  · rintro ⟨t, ht, h1, h2⟩
    obtain ⟨x, hx, rfl⟩ := List.mem_map.1 ht
    exact ⟨x, hx, by rw [Bool.and_eq_true, Bool.not_eq_true', beq_eq_false_iff_ne, List.isSuffixOf_iff_suffix]; exact ⟨h1, h2⟩⟩
/-- The names that are kept, as far as the rounds went. -/
def KeptUpTo (l : List ByteArray) (K seen : List (List UInt8)) : Prop :=
  K.Nodup ∧ [] ∈ seen ∧ (∀ s, s ∈ K ↔ (s ∈ seen ∧ s ≠ [] ∧ s ∈ l.map (·.data.toList) ∧ ¬ hidL (l.map (·.data.toList)) s))
theorem kept_fold (l : List ByteArray) : ∀ (pre : List Nat) (st : List UInt8 × List (List UInt8)) (K : List (List UInt8)), (∀ i ∈ pre, i < l.length) → KeptUpTo l K st.2 → st.1 = [0] ++ K.flatMap (· ++ [0]) →
    ∃ K', KeptUpTo l K' (pre.foldl (stepT2 l) st).2 ∧ (pre.foldl (stepT2 l) st).1 = [0] ++ K'.flatMap (· ++ [0])
  | [], st, K, _, h1, h2 => ⟨K, h1, h2⟩
  | x :: pre, st, K, hp, ⟨h1, h0, h2⟩, h3 => by
    have hx := hp x (by simp)
    have hmem : (el l x).data.toList ∈ l.map (·.data.toList) := List.mem_map.2 ⟨el l x, by rw [el_get l x hx]; exact List.getElem_mem hx, rfl⟩
    rw [List.foldl_cons]
    by_cases hs : (el l x).data.toList ∈ st.2
    · refine kept_fold l pre _ K (fun i hi => hp i (by simp [hi])) ⟨h1, ?_, ?_⟩ ?_
      · exact List.mem_cons_of_mem _ h0
      · intro s
        rw [h2 s]
        show _ ↔ (s ∈ (el l x).data.toList :: st.2 ∧ _)
        constructor
        · rintro ⟨a, b⟩; exact ⟨List.mem_cons_of_mem _ a, b⟩
        · rintro ⟨a, b⟩
          rcases List.mem_cons.1 a with h | h
          · exact ⟨by rw [h]; exact hs, b⟩
          · exact ⟨h, b⟩
      · unfold stepT2
        rw [decide_eq_true hs]
        exact h3
    · by_cases hh : l.any (hid2 (el l x)) = true
      · refine kept_fold l pre _ K (fun i hi => hp i (by simp [hi])) ⟨h1, List.mem_cons_of_mem _ h0, ?_⟩ ?_
        · intro s
          rw [h2 s]
          show _ ↔ (s ∈ (el l x).data.toList :: st.2 ∧ _)
          constructor
          · rintro ⟨a, b⟩; exact ⟨List.mem_cons_of_mem _ a, b⟩
          · rintro ⟨a, b1, b2, b3⟩
            rcases List.mem_cons.1 a with h | h
            · exact absurd (by rw [h]; exact (hid_any l _).1 hh) b3
            · exact ⟨h, b1, b2, b3⟩
        · unfold stepT2
          rw [hh, Bool.not_true, Bool.and_false]
          exact h3
      · have hne : (el l x).data.toList ≠ [] := fun e => hs (by rw [e]; exact h0)
        refine kept_fold l pre _ (K ++ [(el l x).data.toList]) (fun i hi => hp i (by simp [hi])) ⟨?_, List.mem_cons_of_mem _ h0, ?_⟩ ?_
        · rw [List.nodup_append]
          exact ⟨h1, by simp, fun a ha b hb e => by
            rw [List.mem_singleton.1 hb] at e
            exact hs (by rw [← e]; exact ((h2 a).1 ha).1)⟩
        · intro s
          show _ ↔ (s ∈ (el l x).data.toList :: st.2 ∧ _)
          rw [List.mem_append, List.mem_singleton, h2 s]
          constructor
          · rintro (⟨a, b⟩ | h)
            · exact ⟨List.mem_cons_of_mem _ a, b⟩
            · subst h
              exact ⟨by simp, hne, hmem, fun h => hh ((hid_any l _).2 h)⟩
          · rintro ⟨a, b⟩
            rcases List.mem_cons.1 a with h | h
            · exact .inr h
            · exact .inl ⟨h, b⟩
        · unfold stepT2
          rw [decide_eq_false hs, Bool.eq_false_iff.2 hh, h3]
          simp
/-- The names that a table keeps: each once; none empty, none hidden. -/
theorem kept (l : List ByteArray) : ∃ K : List (List UInt8), K.Nodup ∧ (∀ s, s ∈ K ↔ (s ≠ [] ∧ s ∈ l.map (·.data.toList) ∧ ¬ hidL (l.map (·.data.toList)) s)) ∧ tabT l = [0] ++ K.flatMap (· ++ [0]) := by
  obtain ⟨K, ⟨h1, _, h2⟩, h3⟩ := kept_fold l (come l.length l.length) ([0], [[]]) [] (fun i hi => ((mem_come _ _ _ (Nat.le_refl _)).1 hi).2.1) ⟨List.nodup_nil, by simp, fun s => ⟨(fun h => by cases h), fun ⟨h, h4, _⟩ => absurd (by simpa using h) h4⟩⟩ rfl
  refine ⟨K, h1, fun s => ?_, ?_⟩
  · rw [h2 s]
    constructor
    · rintro ⟨_, h⟩; exact h
    · rintro ⟨a, b, c⟩
      refine ⟨?_, a, b, c⟩
      rw [seen_come, List.mem_append, List.mem_reverse, List.mem_map]
      obtain ⟨x, hx, hxs⟩ := List.mem_map.1 b
      obtain ⟨i, hi, rfl⟩ := List.mem_iff_getElem.1 hx
      exact .inl ⟨i, (mem_come _ _ _ (Nat.le_refl _)).2 ⟨by omega, hi, by omega⟩, by rw [el_get l i hi]; exact hxs⟩
  · unfold tabT
    rw [stT_eq]
    exact h3
theorem flat_len (K : List (List UInt8)) : (K.flatMap (· ++ [0])).length = (K.map (fun s => s.length + 1)).sum := by
  induction K with
  | nil => rfl
  | cons k r ih => rw [List.flatMap_cons, List.length_append, List.length_append, List.length_singleton, List.map_cons, List.sum_cons, ih]
/-- More names make a table no shorter. -/
theorem more_len (l : List ByteArray) (m : ByteArray) : (tabT l).length ≤ (tabT (l ++ [m])).length := by
  obtain ⟨K, h1, h2, h3⟩ := kept l
  obtain ⟨K', g1, g2, g3⟩ := kept (l ++ [m])
  rw [h3, g3, List.length_append, List.length_append, flat_len, flat_len]
  refine Nat.add_le_add_left ?_ _
  have hmap : (l ++ [m]).map (·.data.toList) = l.map (·.data.toList) ++ [m.data.toList] := by simp
  rw [hmap] at g2
  have hkeep : ∀ s ∈ K, ¬ (m.data.toList ≠ s ∧ s <:+ m.data.toList) → s ∈ K' := by
    intro s hs hn
    obtain ⟨a, b, c⟩ := (h2 s).1 hs
    refine (g2 s).2 ⟨a, List.mem_append_left _ b, ?_⟩
    rintro ⟨t, ht, ht1, ht2⟩
    rcases List.mem_append.1 ht with h | h
    · exact c ⟨t, h, ht1, ht2⟩
    · rw [List.mem_singleton.1 h] at ht1 ht2
      exact hn ⟨ht1, ht2⟩
  by_cases hex : ∃ s0 ∈ K, m.data.toList ≠ s0 ∧ s0 <:+ m.data.toList
  · obtain ⟨s0, hs0, hm1, hm2⟩ := hex
    obtain ⟨a0, b0, c0⟩ := (h2 s0).1 hs0
    have hp := List.perm_cons_erase hs0
    rw [(hp.map _).sum_nat, List.map_cons, List.sum_cons]
    have hmn : m.data.toList ∉ l.map (·.data.toList) := fun h => c0 ⟨_, h, hm1, hm2⟩
    have hmK : m.data.toList ∈ K' := by
      refine (g2 _).2 ⟨?_, by simp, ?_⟩
      · intro e
        rw [e] at hm2
        exact a0 (List.suffix_nil.1 hm2)
      · rintro ⟨t, ht, ht1, ht2⟩
        rcases List.mem_append.1 ht with h | h
        · refine c0 ⟨t, h, ?_, hm2.trans ht2⟩
          intro e
          rw [e] at ht2
          exact hm1 (List.IsSuffix.eq_of_length_le ht2 hm2.length_le)
        · exact ht1 (List.mem_singleton.1 h)
    have hsub := sum_sub (fun s => s.length + 1) (m.data.toList :: K.erase s0) K' (List.nodup_cons.2 ⟨fun h => hmn ((h2 _).1 (List.mem_of_mem_erase h)).2.1, h1.erase _⟩) (fun s hs => by
      rcases List.mem_cons.1 hs with h | h
      · rw [h]; exact hmK
      · have hsK := List.mem_of_mem_erase h
        refine hkeep s hsK ?_
        rintro ⟨q1, q2⟩
        have hne : s ≠ s0 := fun e => by
          rw [e] at h
          exact (List.Nodup.not_mem_erase h1) h
        obtain ⟨_, bs, cs⟩ := (h2 s).1 hsK
        rcases List.suffix_or_suffix_of_suffix q2 hm2 with h5 | h5
        · exact cs ⟨s0, b0, fun e => hne e.symm, h5⟩
        · exact c0 ⟨s, bs, hne, h5⟩)
    rw [List.map_cons, List.sum_cons] at hsub
    have := hm2.length_le
    omega
  · exact sum_sub _ K K' h1 (fun s hs => hkeep s hs (fun h => hex ⟨s, hs, h⟩))
end Go.Proofs.YtolgilamchadfaaDoorX.Ag

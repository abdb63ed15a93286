/- Plain laws: the texts of a table make a table as long. -/
import Derived.Test.YtolgilamchadfaaDoorXAgP03K
namespace Go.Proofs.YtolgilamchadfaaDoorX.Ag
set_option linter.unusedVariables false
set_option linter.unusedSimpArgs false
open Go.RowKit Go.Proofs.YtolgilamchadfaaDoor Go.Proofs.YtolgilamchadfaaDoorW.PrintWords Go.Proofs.YtolgilamchadfaaDoorW.PrintLast Go.Proofs.YtolgilamchadfaaDoorW.PrintMore

theorem textR_piece (a r : List UInt8) (h : (0 : UInt8) ∉ a) : textR (a ++ [0] ++ r) = some a := (textR_iff _ _).2 ⟨h, by rw [List.isPrefixOf_iff_prefix]; exact List.prefix_append _ _⟩
theorem pieces_uniq : ∀ A B : List (List UInt8), (∀ s ∈ A, (0 : UInt8) ∉ s) → (∀ s ∈ B, (0 : UInt8) ∉ s) → A.flatMap (· ++ [0]) = B.flatMap (· ++ [0]) → A = B
  | [], [], _, _, _ => rfl
  | [], b :: B, _, _, h => by simp at h
  | a :: A, [], _, _, h => by simp at h
  | a :: A, b :: B, ha, hb, h => by
    rw [List.flatMap_cons, List.flatMap_cons] at h
    have h1 := textR_piece a (A.flatMap (· ++ [0])) (ha a (by simp))
    rw [h, textR_piece b _ (hb b (by simp))] at h1
    obtain rfl : b = a := Option.some.inj h1
    have h2 := List.append_cancel_left h
    rw [pieces_uniq A B (fun s hs => ha s (by simp [hs])) (fun s hs => hb s (by simp [hs])) h2]
theorem split_free : ∀ (k : Nat) (s : ByteArray), Lib.countB s ⟨#[0]⟩ = k → ∀ p ∈ Lib.splitB ⟨#[0]⟩ 0 k s, (0 : UInt8) ∉ p.data.toList
  | 0, s, h => by
    intro p hp
    rw [Lib.splitB_zero, List.mem_singleton] at hp
    subst hp
    rcases Lib.index_spec p.data.toList [0] with ⟨_, hno⟩ | ⟨i, hz, _⟩
    · intro h0
      obtain ⟨j, hj, hj0⟩ := List.mem_iff_getElem.1 h0
      have := hno j (by omega)
      unfold Lib.occAt at this
      rw [List.drop_eq_getElem_cons hj, hj0] at this
      simp at this
    · have hx : Lib.indexB p ⟨#[0]⟩ = (i : Int) := hz
      have hc := Lib.countB_hit p ⟨#[0]⟩ i (by decide) hx
      omega
  | k + 1, s, h => by
    rcases Lib.index_spec s.data.toList [0] with ⟨hz, _⟩ | ⟨i, hz, hi, ho, hf⟩
    · have hx : Lib.indexB s ⟨#[0]⟩ = -1 := hz
      rw [Lib.countB_miss s _ hx] at h; cases h
    · have hx : Lib.indexB s ⟨#[0]⟩ = (i : Int) := hz
      have hc := Lib.countB_hit s ⟨#[0]⟩ i (by decide) hx
      rw [Lib.splitB_hit _ 0 k s i hx]
      intro p hp
      rcases List.mem_cons.1 hp with h2 | h2
      · subst h2
        show (0 : UInt8) ∉ (s.extract 0 i).data.toList
        rw [ext_till]
        intro h0
        obtain ⟨j, hj, hj0⟩ := List.mem_iff_getElem.1 h0
        rw [List.length_take] at hj
        rw [List.getElem_take] at hj0
        have := hf j (by omega)
        unfold Lib.occAt at this
        rw [List.drop_eq_getElem_cons (by omega : j < s.data.toList.length), hj0] at this
        simp at this
      · exact split_free k (s.extract (i + 1) s.size) (by
          have : (⟨#[0]⟩ : ByteArray).size = 1 := rfl
          rw [this] at hc
          omega) p h2
/-- The names of a table's own texts make a table as long. -/
theorem again_len (l : List ByteArray) (hd : ∀ s ∈ l, (0 : UInt8) ∉ s.data.toList) (P : List ByteArray) (hP : ∀ p ∈ P, (0 : UInt8) ∉ p.data.toList) (hj : joined P = tabT l) : (tabT P).length = (tabT l).length := by
  obtain ⟨K, h1, h2, h3⟩ := kept l
  obtain ⟨K', g1, g2, g3⟩ := kept P
  have hK0 : ∀ s ∈ K, (0 : UInt8) ∉ s := fun s hs => by
    obtain ⟨_, b, _⟩ := (h2 s).1 hs
    obtain ⟨x, hx, rfl⟩ := List.mem_map.1 b
    exact hd x hx
  have hnames : P.map (·.data.toList) = [] :: K := by
    refine pieces_uniq _ _ (fun s hs => ?_) (fun s hs => ?_) ?_
    · obtain ⟨x, hx, rfl⟩ := List.mem_map.1 hs; exact hP x hx
    · rcases List.mem_cons.1 hs with h | h
      · rw [h]; simp
      · exact hK0 s h
    · rw [List.flatMap_map]
      have : P.flatMap (fun x => x.data.toList ++ [0]) = tabT l := hj
      rw [this, h3, List.flatMap_cons]
      rfl
  rw [hnames] at g2
  have hperm : K'.Perm K := (List.perm_ext_iff_of_nodup g1 h1).2 (fun s => by
    rw [g2 s]
    constructor
    · rintro ⟨a, b, _⟩
      rcases List.mem_cons.1 b with h | h
      · exact absurd h a
      · exact h
    · intro hs
      obtain ⟨a, b, c⟩ := (h2 s).1 hs
      refine ⟨a, List.mem_cons_of_mem _ hs, ?_⟩
      rintro ⟨t, ht, ht1, ht2⟩
      rcases List.mem_cons.1 ht with h | h
      · rw [h] at ht2
        exact a (List.suffix_nil.1 ht2)
      · exact c ⟨t, ((h2 t).1 h).2.1, ht1, ht2⟩)
  rw [h3, g3, List.length_append, List.length_append, flat_len, flat_len, (hperm.map _).sum_nat]
end Go.Proofs.YtolgilamchadfaaDoorX.Ag

/- Contracts over this translation for the print: strings.Split, strings.TrimSuffix; and what the pieces are, put together. -/
import Derived.Test.YtolgilamchadfaaDoorStrD
import Derived.Lib.SplitLaws
import Derived.Lib.CountLaws
namespace Go.Proofs.YtolgilamchadfaaDoor
set_option linter.unusedVariables false
set_option linter.unusedSimpArgs false
open Go.RowKit

theorem split_k (s t : ByteArray) (hs : s.size < 4294967281) (ht : 1 ≤ t.size) (w : World) (hm : MaxAt w) : Calls Tryd.prog 19 #[.string s, .string t] w fun e w' => (∃ v, e = .returned v ∧ w'.ownsRow w.heap.size 9 1 v (Lib.splitB t 0 (Lib.countB s t) s).length ((Lib.splitB t 0 (Lib.countB s t) s).map Value.string)) ∧ Below w.heap.size w w' := by
  obtain ⟨m, hm⟩ := hm
  have hlen := Lib.splitB_all t ht 0 (Lib.countB s t) s rfl
  have hc := Lib.countB_le t ht s.size s (Nat.le_refl _)
  refine (Tryd.strings_Split s t m w hs hm ht).mono ?_
  rintro e w' ⟨rfl, rfl⟩
  refine ⟨⟨_, rfl, by rw [List.length_map, Nat.mul_one], .inr ⟨w.heap.size, Lib.countB s t + 1, _, by rw [hlen], Nat.le_refl _, heap_at _ _ _ rfl, by omega, by unfold maxLen; omega, ?_, ?_⟩⟩, (Below.refl _ w).alloc (Nat.le_refl _) _⟩
  · rw [List.size_toArray, List.length_map, hlen, Nat.mul_one]
  · rw [Nat.mul_one, List.take_of_length_le]
    rw [List.length_map]
    exact Nat.le_refl _
/-- texts, each with a byte 0 behind it -/
def joined (l : List ByteArray) : List UInt8 := l.flatMap (fun s => s.data.toList ++ [0])
theorem ext_from (t : ByteArray) (n : Nat) : (t.extract n t.size).data.toList = t.data.toList.drop n := by
  rw [ByteArray.data_extract]
  simp only [Array.toList_extract]
  rw [List.extract_eq_take_drop, List.take_of_length_le]
  rw [List.length_drop, Array.length_toList]
  exact Nat.le_refl _
theorem ext_till (t : ByteArray) (n : Nat) : (t.extract 0 n).data.toList = t.data.toList.take n := by
  rw [ByteArray.data_extract]
  simp only [Array.toList_extract]
  rw [List.extract_eq_take_drop, List.drop_zero, Nat.sub_zero]
theorem split_joined : ∀ (k : Nat) (s : ByteArray), Lib.countB s ⟨#[0]⟩ = k → joined (Lib.splitB ⟨#[0]⟩ 0 k s) = s.data.toList ++ [0]
  | 0, s, _ => by rw [Lib.splitB_zero]; simp [joined]
  | k + 1, s, h => by
    rcases Lib.index_spec s.data.toList [0] with ⟨hz, _⟩ | ⟨i, hz, hi, ho, _⟩
    · have hx : Lib.indexB s ⟨#[0]⟩ = -1 := hz
      rw [Lib.countB_miss s _ hx] at h; cases h
    · have hx : Lib.indexB s ⟨#[0]⟩ = (i : Int) := hz
      have hc := Lib.countB_hit s ⟨#[0]⟩ i (by decide) hx
      rw [Lib.splitB_hit _ 0 k s i hx]
      have ih := split_joined k (s.extract (i + 1) s.size) (by
        have : (⟨#[0]⟩ : ByteArray).size = 1 := rfl
        rw [this] at hc
        omega)
      unfold joined at ih ⊢
      rw [List.flatMap_cons]
      show (s.extract 0 i).data.toList ++ [0] ++ (Lib.splitB ⟨#[0]⟩ 0 k (s.extract (i + 1) s.size)).flatMap _ = _
      rw [ih, ext_till, ext_from]
      unfold Lib.occAt at ho
      rw [List.isPrefixOf_iff_prefix] at ho
      obtain ⟨q, hq⟩ := ho
      have h1 : s.data.toList.drop (i + 1) = q := by
        rw [← List.drop_drop, ← hq]; rfl
      rw [h1]
      conv => rhs; rw [← List.take_append_drop i s.data.toList, ← hq]
      simp
end Go.Proofs.YtolgilamchadfaaDoor

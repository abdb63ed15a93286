/- Contracts over this translation: dynrec.TagName. -/
import Derived.Test.YtcfbdnlbgcoicaaDoorFmtC
import Derived.Test.YtcfbdnlbgcoicaaDoorStrTab
namespace Go.Proofs.YtcfbdnlbgcoicaaDoor
set_option linter.unusedVariables false
set_option linter.unusedSimpArgs false
open Go.RowKit

def tagsL : List (List UInt8) := [[78, 85, 76, 76], [78, 69, 69, 68, 69, 68], [80, 76, 84, 82, 69, 76, 83, 90], [80, 76, 84, 71, 79, 84], [72, 65, 83, 72], [83, 84, 82, 84, 65, 66], [83, 89, 77, 84, 65, 66], [82, 69, 76, 65], [82, 69, 76, 65, 83, 90], [82, 69, 76, 65, 69, 78, 84], [83, 84, 82, 83, 90], [83, 89, 77, 69, 78, 84], [73, 78, 73, 84], [70, 73, 78, 73], [83, 79, 78, 65, 77, 69], [82, 80, 65, 84, 72], [83, 89, 77, 66, 79, 76, 73, 67], [82, 69, 76], [82, 69, 76, 83, 90], [82, 69, 76, 69, 78, 84], [80, 76, 84, 82, 69, 76], [68, 69, 66, 85, 71], [84, 69, 88, 84, 82, 69, 76], [74, 77, 80, 82, 69, 76], [66, 73, 78, 68, 95, 78, 79, 87]]
theorem bdig_len_le (b u : Nat) (hb : 2 ≤ b) (m : Nat) (h : u < b ^ m) (hm : 1 ≤ m) : (bdig b u).length ≤ m := by
  induction m generalizing u with
  | zero => omega
  | succ m ih =>
    by_cases hu : u < b
    · rw [bdig_small hu]; simp
    · rw [bdig_big hb (by omega)]
      have hm1 : 1 ≤ m := by
        rcases Nat.eq_zero_or_pos m with rfl | h'
        · simp at h; omega
        · exact h'
      have := ih (u / b) (Nat.div_lt_of_lt_mul (by rw [Nat.mul_comm, ← Nat.pow_succ]; exact h)) hm1
      simp; omega
theorem gTags : Tryd.prog.globalNamed "graver/dynrec.tags" = some 0 := by kernel_rfl
structure TagTabs (w : World) : Prop where
  t : Tabs w
  s : StrsIs Tryd.prog w "graver/dynrec.tags" tagsL
theorem TagTabs.below {w w' : World} (h : TagTabs w) (hb : Below w.heap.size w w') : TagTabs w' := ⟨h.t.below hb, h.s.below hb⟩
def tagName (n : Nat) : List UInt8 := if n < 25 then tagsL.getD n [] else [48, 120] ++ bdig 16 n
theorem tagName_any (n : Nat) (hn : n < 18446744073709551616) (w : World) (ht : TagTabs w) :
    Calls Tryd.prog 17 #[.int .u64 n] w fun e w' => e = .returned (.string ⟨(tagName n).toArray⟩) ∧ Below w.heap.size w w' := by
  unfold tagName
  by_cases h : n < 25
  · rw [if_pos h]
    have c := ht.s.cell gTags n (by show n < 25; exact h)
    obtain ⟨s, hs⟩ : ∃ s, s = tagsL.getD n [] := ⟨_, rfl⟩
    rw [← hs] at c ⊢
    clear hs
    have hi : (n : Int) < 25 := by omega
    go_enter Tryd.func17, Tryd.ntmps17
    go_wp2
    go_ret
    exact ⟨rfl, Below.refl _ _⟩
  · rw [if_neg h]
    have hi : ¬ ((n : Int) < 25) := by omega
    have hl : (bdig 16 n).length ≤ 16 := bdig_len_le 16 n (by decide) 16 (by omega) (by decide)
    obtain ⟨s, hs⟩ : ∃ s, s = bdig 16 n := ⟨_, rfl⟩
    have HF := Lib.hid (FormatUint_16 n hn)
    rw [← hs] at HF hl ⊢
    clear hs
    have f1 : ¬ (9223372036854775807 < 2 + s.length) := by omega
    go_enter Tryd.func17, Tryd.ntmps17
    go_wp2_with (first | (go_at_call 33; refine (HF.out _ ht.t).mono ?_; rintro e w' ⟨rfl, hb⟩))
    go_ret
    refine ⟨?_, hb⟩
    show Ending.returned (.string (⟨[48, 120].toArray⟩ ++ ⟨s.toArray⟩)) = _
    rw [ByteArray.mk_append_mk]
    rfl
end Go.Proofs.YtcfbdnlbgcoicaaDoor

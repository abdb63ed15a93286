/- Contracts over this translation: ar.Good, of names of ASCII letters; speaks. -/
import Derived.Test.YtienjagoplcimaaArlE
import Derived.Test.YtienjagoplcimaaShelf
namespace Go.Proofs.Ytienjagoplcimaa
set_option linter.unusedVariables false
set_option linter.unusedSimpArgs false
open Go.RowKit Go.Proofs.YtienjagoplcimaaW.PrintWords

set_option maxHeartbeats 600000 in
set_option maxRecDepth 100000 in
theorem good_m (s : ByteArray) (h0 : 0 < s.size) (h1 : s.size ≤ 255) (has : ∀ (j : Nat) b, s.data.toList[j]? = some b → b.toNat < 128) (w : World) :
    Calls Try.prog 14 #[.string s] w fun e w' => e = .returned (.bool (!Lib.containsAny s.data.toList [47, 10, 0])) ∧ Below w.heap.size w w' := by
  have hemp : s.toList.isEmpty = false := by
    rw [Lib.toList_data]
    cases h : s.data.toList with
    | nil => have := Lib.size_eq s; rw [h, List.length_nil] at this; omega
    | cons _ _ => rfl
  have hsz : (s.size : Int) ≤ 255 := by omega
  have hH := Lib.hid (fun W => Try.strings_ContainsAny_laid s ⟨#[47, 10, 0]⟩ W (by omega) (by decide) has (by
    intro j b hj
    match j, hj with
    | 0, hj => cases hj; decide
    | 1, hj => cases hj; decide
    | 2, hj => cases hj; decide))
  go_enter Try.func14, Try.ntmps14
  go_wp2_with (first | (go_at_call 27; refine (hH.out _).mono ?_; rintro e w1 ⟨rfl, hb1⟩; have HB1 := Lib.hid hb1; clear hb1))
  go_ret
  exact ⟨rfl, HB1.out⟩
def mA : MemD := ⟨⟨#[97]⟩, 0, 0, 0, 0, ⟨#[]⟩⟩
def mB : MemD := ⟨⟨#[98]⟩, 0, 0, 0, 0, ⟨#[]⟩⟩
theorem move_two : moveR [mA, mB] ⟨#[98]⟩ 0 = ([mB, mA], 0) := by
  have h : findN [mA, mB] ⟨#[98]⟩ = some 1 := by simp [findN, mA, mB, Lib.toList_data, List.findIdx?_cons]
  simp [moveR, h]
theorem rd_of_block {w : World} {b : Nat} {cs : Array Value} {t : TypeId} (h : w.heap[b]? = some (.cells cs t (0, 0))) : Rd w (some ⟨b, 0, none⟩) cs.toList :=
  .inr ⟨b, 0, rfl, fun j u hj => by rw [Nat.zero_add, cell_of_row w b j cs t (0, 0) h, ← Array.getElem?_toList]; exact hj⟩
theorem two_cells {w : World} {base g c : Nat} {e : TypeId} (h : w.ownsRow base e 6 (.slice (some ⟨g, 0, none⟩) ([mB, mA], (0 : Int)).1.length c) ([mB, mA], (0 : Int)).1.length (([mB, mA], (0 : Int)).1.flatMap encM)) :
    w.cell? ⟨g, 0, none⟩ = some (.string ⟨#[98]⟩) ∧ w.cell? ⟨g, 6, none⟩ = some (.string ⟨#[97]⟩) := by
  have hr : Rd w (some ⟨g, 0, none⟩) ([mB, mA].flatMap encM) := Rd.of_own h
  obtain ⟨b, o, hbo, hcl⟩ := hr.at (by decide)
  injection hbo with hbo
  injection hbo with h1 h2
  subst h1; subst h2
  exact ⟨hcl 0 _ rfl, hcl 6 _ rfl⟩
theorem old_cell {w w1 : World} {cs : Array Value} {t : TypeId} (h : Below (w.alloc (.cells cs t)).heap.size (w.alloc (.cells cs t)) w1) (hc : cs[0]? = some (.string ⟨#[97]⟩)) : w1.cell? ⟨w.heap.size, 0, none⟩ = some (.string ⟨#[97]⟩) := by
  have h1 : (w.alloc (.cells cs t)).cell? ⟨w.heap.size, 0, none⟩ = some (.string ⟨#[97]⟩) := by rw [cell_of_row _ _ 0 cs t (0, 0) (heap_new w _)]; exact hc
  rw [h.cell (cell_lt h1)]; exact h1
set_option maxHeartbeats 600000 in
set_option maxRecDepth 100000 in
theorem speaks_m (w : World) : Calls Try.prog 8 #[] w fun e w' => e = .returned (.bool true) ∧ Below w.heap.size w w' := by
  have HM := Lib.hid move_two
  go_enter Try.func8, Try.ntmps8
  go_wp2_with (first
    | (go_at_call 12; refine (move_m [mA, mB] (by decide) ⟨#[98]⟩ 0 (some ⟨w.heap.size, 0, none⟩) 2 _ (rd_of_block (heap_new w _))).mono ?_; rw [HM.out]; rintro e w1 ⟨⟨v, rfl, ho⟩, hb1⟩; have hs := owns_some ho (by decide); obtain ⟨g, c2, rfl, hg1, hg2, hc2⟩ := hs; have hq := two_cells ho; obtain ⟨q0, q6⟩ := hq; have hz := old_cell hb1 rfl; have HB1 := Lib.hid (((Below.refl w.heap.size w).alloc (Nat.le_refl _) _).trans (hb1.mono (by simp))); clear hb1 ho hg1 hg2 hc2))
  go_ret
  exact ⟨rfl, HB1.out⟩
end Go.Proofs.Ytienjagoplcimaa

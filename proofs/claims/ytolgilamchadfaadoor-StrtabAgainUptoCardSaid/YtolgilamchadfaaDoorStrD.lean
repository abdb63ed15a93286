/- Contracts over this translation for the print: what the search's variable holds; the calls' results by ByteArrays. -/
import Derived.Test.YtolgilamchadfaaDoorStrC
import Derived.Test.YtolgilamchadfaaDoorBridge
namespace Go.Proofs.YtolgilamchadfaaDoor
set_option linter.unusedVariables false
set_option linter.unusedSimpArgs false
open Go.RowKit

/-- internal/bytealg.MaxLen's cell holds some int. -/
def MaxAt (W : World) : Prop := ∃ m, W.cell? ⟨0, 0, none⟩ = some (.int .i64 m)
theorem MaxAt.below {w w' : World} (h : MaxAt w) (hb : Below w.heap.size w w') : MaxAt w' := by
  obtain ⟨m, hm⟩ := h
  exact ⟨m, (hb.cell (p := ⟨0, 0, none⟩) (cell_lt hm)).trans hm⟩
theorem maxAt_of {W : World} (h : W.ShapedOpen Tryd.prog) : MaxAt W := Tryd.laysM143.s1_3 W h
theorem build_k (l : List ByteArray) (hl : l.length ≤ 1000000) (M : Nat) (hM : ∀ s ∈ l, s.size ≤ M) (hbig : 1 + l.length * (M + 1) ≤ 140737488355328) (hM2 : M ≤ 9223372036854775807) (a : Option Addr) (c : Nat) (w : World) (hr : Rd w a (l.map Value.string)) (hm : MaxAt w) :
    Calls Tryd.prog 6 #[.slice a l.length c] w fun e w' => (∃ v, e = .returned (.tuple #[.string ⟨(buildR l).1.toArray⟩, v, .int .i64 (buildR l).2.2]) ∧ w'.ownsRow w.heap.size 30 1 v (buildR l).2.1.length ((buildR l).2.1.map (Value.int .u64))) ∧ Below w.heap.size w w' := by
  obtain ⟨m, hm⟩ := hm
  exact build_m l hl M hM hbig hM2 a c w hr m hm
theorem contains0 (s t : ByteArray) (ht : t.data.toList = [0]) (w : World) : Calls Tryd.prog 13 #[.string s, .string t] w fun e w' => e = .returned (.bool (darkB s)) ∧ w' = w := by
  obtain rfl : t = ⟨#[0]⟩ := by cases t; congr; exact Array.ext' ht
  exact Tryd.strings_Contains_one s 0 w
theorem index_k (s t : ByteArray) (hs : s.size < 4294967281) (w : World) (hm : MaxAt w) : Calls Tryd.prog 18 #[.string s, .string t] w fun e w' => e = .returned (.int .i64 (Lib.index s.data.toList t.data.toList)) ∧ w' = w := by
  obtain ⟨m, hm⟩ := hm
  exact Tryd.strings_Index s t m w hs hm
theorem cut_k (s t : ByteArray) (hs : s.size < 4294967281) (w : World) (hm : MaxAt w) : Calls Tryd.prog 21 #[.string s, .string t] w fun e w' => e = .returned (.tuple #[.string ⟨(Lib.cut s.data.toList t.data.toList).1.toArray⟩, .string ⟨(Lib.cut s.data.toList t.data.toList).2.1.toArray⟩, .bool (Lib.cut s.data.toList t.data.toList).2.2]) ∧ Below w.heap.size w w' := by
  obtain ⟨m, hm⟩ := hm
  refine (Tryd.strings_Cut s t m w hs hm).mono ?_
  rintro e w' ⟨he, n, rfl⟩
  exact ⟨he, Go.below_drewN (Below.refl _ w) n⟩
theorem flat_one {α : Type} (g : α → Value) : ∀ l : List α, (l.flatMap fun s => [g s]) = l.map g
  | [] => rfl
  | x :: r => by rw [List.flatMap_cons, flat_one g r]; rfl
/-- the longest text's length -/
def longest (l : List ByteArray) : Nat := l.foldr (fun s m => max s.size m) 0
theorem le_longest : ∀ (l : List ByteArray), ∀ s ∈ l, s.size ≤ longest l
  | [], s, h => by cases h
  | x :: r, s, h => by
    unfold longest
    rw [List.foldr_cons]
    rcases List.mem_cons.1 h with h | h
    · subst h; exact Nat.le_max_left _ _
    · exact Nat.le_trans (le_longest r s h) (Nat.le_max_right _ _)
end Go.Proofs.YtolgilamchadfaaDoor

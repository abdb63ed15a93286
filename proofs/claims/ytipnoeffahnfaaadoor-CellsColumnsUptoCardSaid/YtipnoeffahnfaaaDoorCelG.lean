/- Contracts over this translation for the print: layer 25's functions by ByteArrays. -/
import Derived.Test.YtipnoeffahnfaaaDoorCelD
import Derived.Test.YtipnoeffahnfaaaDoorCelH
namespace Go.Proofs.YtipnoeffahnfaaaDoor
set_option linter.unusedVariables false
set_option linter.unusedSimpArgs false
open Go.RowKit Go.Proofs.YtipnoeffahnfaaaDoorW.PrintWords

/-- What stands in memory from the start: the tables of strconv, the search's bound. -/
def CelT (W : World) : Prop := Tabs W ∧ ∃ m, W.cell? ⟨1, 0, none⟩ = some (.int .i64 m)
theorem CelT.below {w w' : World} (h : CelT w) (hb : Below w.heap.size w w') : CelT w' := by
  obtain ⟨h1, m, hm⟩ := h
  exact ⟨h1.below hb, m, (hb.cell (p := ⟨1, 0, none⟩) (cell_lt hm)).trans hm⟩
theorem celT_of {W : World} (h : W.ShapedOpen Tryd.prog) (ht : Tabs W) : CelT W := ⟨ht, Tryd.laysM143.s1_3 W h⟩
def bb (l : List UInt8) : ByteArray := ⟨l.toArray⟩
theorem bb_data (s : ByteArray) : bb s.data.toList = s := by cases s; simp [bb]
theorem cell_g (s : ByteArray) (hs : s.size ≤ 1000000000) (w : World) : Calls Tryd.prog 16 #[.string s] w fun e w' => e = .returned (.string ⟨(cellR s.data.toList).toArray⟩) ∧ Below w.heap.size w w' := by
  have h := cell_any s.data.toList (by rw [Array.length_toList]; exact hs) w
  rw [show (⟨s.data.toList.toArray⟩ : ByteArray) = s from bb_data s] at h
  exact h
theorem text_g (s : ByteArray) (hs : s.size ≤ 1000000000) (w : World) : Calls Tryd.prog 15 #[.string s] w fun e w' => e = .returned (.tuple #[.string ⟨((textC s.data.toList).getD []).toArray⟩, .bool (textC s.data.toList).isSome]) ∧ Below w.heap.size w w' := by
  have h := text_any s.data.toList (by rw [Array.length_toList]; exact hs) w
  rw [show (⟨s.data.toList.toArray⟩ : ByteArray) = s from bb_data s] at h
  exact h
theorem map_bb (l : List (List UInt8)) : l.map strV = (l.map bb).flatMap fun z => [Value.string z] := by
  induction l with
  | nil => rfl
  | cons x r ih => rw [List.map_cons, List.map_cons, List.flatMap_cons, ← ih]; rfl
theorem flat_str (l : List ByteArray) : (l.flatMap fun z => [Value.string z]) = (l.map fun s : ByteArray => s.data.toList).map strV := by
  rw [row_strs]
  induction l with
  | nil => rfl
  | cons x r ih => rw [List.flatMap_cons, ih]; rfl
theorem row_g (s : ByteArray) (hs : s.size ≤ 1000000) (w : World) (ht : CelT w) : Calls Tryd.prog 25 #[.string s] w fun e w' => ∃ v, e = .returned (.tuple #[v, .bool (rowC s.data.toList).isSome]) ∧ Kd.R Kd.string 9 w' w.heap.size (fun _ => True) v (((rowC s.data.toList).getD []).map bb) ∧ Below w.heap.size w w' := by
  obtain ⟨_, m, hm⟩ := ht
  have h := row_any s.data.toList (by rw [Array.length_toList]; exact hs) m w hm
  rw [show (⟨s.data.toList.toArray⟩ : ByteArray) = s from bb_data s] at h
  refine h.mono ?_
  rintro e w' ⟨⟨v, he, ho⟩, hb⟩
  refine ⟨v, he, R_of_owns (d := Kd.string) (fun z => [Value.string z]) (fun _ => rfl) (fun w b ok x => rfl) ?_ (fun _ _ => trivial), hb⟩
  rw [← map_bb, List.length_map]
  exact ho
theorem line_g (l : List ByteArray) (hl : l.length ≤ 1000) (hM : (l.all fun e => decide (e.size ≤ 1000)) = true) (a : Option Addr) (c : Nat) (w : World) (hr : Kd.C Kd.string w a l.length l) :
    Calls Tryd.prog 11 #[.slice a l.length c] w fun e w' => e = .returned (.string ⟨(lineC (l.map fun s : ByteArray => s.data.toList) ++ [10]).toArray⟩) ∧ Below w.heap.size w w' := by
  have h1 := rd_of_C (d := Kd.string) (fun z => [Value.string z]) (by decide) (fun _ => rfl) (fun _ _ _ h => h) hr
  rw [flat_str] at h1
  have h := rowT_any (l.map fun s : ByteArray => s.data.toList) (by rw [List.length_map]; exact hl) (fun x hx => by
    obtain ⟨s, hs, rfl⟩ := List.mem_map.1 hx
    rw [Array.length_toList]
    exact of_decide_eq_true (List.all_eq_true.1 hM s hs)) a c w h1
  rw [List.length_map] at h
  exact h
theorem render_g (rows : List (List ByteArray)) (hR : rows.length ≤ 1000) (hM : (rows.all fun r => decide (r.length ≤ 1000) && r.all fun e => decide (e.size ≤ 1000)) = true) (a : Option Addr) (c : Nat) (w : World) (hr : Kd.C (Kd.slice 9 Kd.string) w a rows.length rows) :
    Calls Tryd.prog 13 #[.slice a rows.length c] w fun e w' => e = .returned (.string ⟨(renderC (rowsL rows)).toArray⟩) ∧ Below w.heap.size w w' :=
  render_any rows hR (fun r hr2 => by
    have h := List.all_eq_true.1 hM r hr2
    rw [Bool.and_eq_true] at h
    exact ⟨of_decide_eq_true h.1, fun x hx => of_decide_eq_true (List.all_eq_true.1 h.2 x hx)⟩) a c w hr
theorem cut_g (s t : ByteArray) (hs : s.size < 4294967281) (w : World) (ht : CelT w) : Calls Tryd.prog 24 #[.string s, .string t] w fun e w' => e = .returned (.tuple #[.string ⟨(Lib.cut s.data.toList t.data.toList).1.toArray⟩, .string ⟨(Lib.cut s.data.toList t.data.toList).2.1.toArray⟩, .bool (Lib.cut s.data.toList t.data.toList).2.2]) ∧ Below w.heap.size w w' := by
  obtain ⟨_, m, hm⟩ := ht
  refine (Tryd.strings_Cut s t m w hs hm).mono ?_
  rintro e w' ⟨he, n, rfl⟩
  exact ⟨he, Go.below_drewN (Below.refl _ w) n⟩
theorem hex_g (n width : Int) (h : 0 ≤ n ∧ n < 18446744073709551616 ∧ -9223372036854775808 ≤ width ∧ width ≤ 9223372036854775807) (w : World) (ht : CelT w) :
    Calls Tryd.prog 8 #[.int .u64 n, .int .i64 width] w fun e w' => e = .returned (.string ⟨(hexR n.toNat width).toArray⟩) ∧ Below w.heap.size w w' := by
  obtain ⟨m, rfl⟩ := Int.eq_ofNat_of_zero_le h.1
  exact hex_any m (by omega) width h.2.2.1 h.2.2.2 w ht.1
theorem dec_g (n : Int) (h : 0 ≤ n ∧ n < 18446744073709551616) (w : World) (ht : CelT w) :
    Calls Tryd.prog 10 #[.int .u64 n] w fun e w' => e = .returned (.string ⟨(Lib.decDigits n.toNat).toArray⟩) ∧ Below w.heap.size w w' := by
  obtain ⟨m, rfl⟩ := Int.eq_ofNat_of_zero_le h.1
  exact dec_any m (by omega) w ht.1
end Go.Proofs.YtipnoeffahnfaaaDoor

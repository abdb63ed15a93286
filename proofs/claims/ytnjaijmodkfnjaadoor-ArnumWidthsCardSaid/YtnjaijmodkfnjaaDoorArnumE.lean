/- The laws of layer 21, walked: for every input the call returns true. Condition: the tables of the library stand as their initialisers lay them. -/
import Derived.Test.YtnjaijmodkfnjaaDoorArnumD
import Derived.WalkSpells
namespace Go.Proofs.YtnjaijmodkfnjaaDoor
set_option linter.unusedVariables false
set_option linter.unusedSimpArgs false
open Go.RowKit Go.Shelf

theorem speaks_any (w : World) (ht : Tabs w) :
    Calls Tryd.prog 7 #[] w fun e w' => e = .returned (.bool true) ∧ Below w.heap.size w w' := by
  have e1 : padS (bdig 8 8) 4 = [49, 48, 32, 32] := by rw [bdig_big (by decide) (by decide), bdig_small (by decide)]; decide +kernel
  have e2 : padB (bdig 8 8) 4 = true := by rw [bdig_big (by decide) (by decide), bdig_small (by decide)]; decide +kernel
  have HP := Lib.hid (put_8 8 (by decide) 4 (by decide) w ht)
  rw [e1, e2] at HP
  have e3 : getS 8 (Lib.trimRightB (⟨#[49, 48, 32, 32]⟩ : ByteArray).data.toList 32) 0 = some 8 := by decide +kernel
  have HG := Lib.hid (get_8 ⟨#[49, 48, 32, 32]⟩ (by decide +kernel))
  rw [e3] at HG
  clear e1 e2 e3
  go_enter Tryd.func7, Tryd.ntmps7
  go_wp2_with (first
    | (go_at_call 8; refine HP.out.mono ?_; rintro e w' ⟨rfl, hb⟩)
    | (go_at_call 9; refine (HG.out _).mono ?_; rintro e w2 ⟨rfl, hb2⟩))
  go_ret
  exact ⟨rfl, below_step hb hb2⟩

/-- A text cut to a length. -/
theorem cut_min (l : List UInt8) (z : Int) (m : Nat) (hz : z = m) : (⟨l.toArray⟩ : ByteArray).extract 0 (min (l.length : Int) z).toNat = ⟨(l.take m).toArray⟩ := by
  subst hz
  apply ByteArray.ext
  rw [ByteArray.data_extract, show (min (l.length : Int) (m : Int)).toNat = min l.length m by omega]
  simp [List.extract_toArray, List.take_eq_take_iff, Nat.min_comm]
theorem getL_8 (t : List UInt8) (h : t.length ≤ 1000000) (w : World) :
    Calls Tryd.prog 9 #[.string ⟨t.toArray⟩, .int .i64 8] w fun e w' => e = .returned (.tuple #[.int .u64 (gN (getS 8 (Lib.trimRightB t 32) 0) : Nat), .bool (gB (getS 8 (Lib.trimRightB t 32) 0))]) ∧ Below w.heap.size w w' :=
  get_8 ⟨t.toArray⟩ (by show t.length ≤ _; omega) w
theorem refGetL_8 (t : List UInt8) (h : t.length ≤ 1000000) (w : World) :
    Calls Tryd.prog 12 #[.string ⟨t.toArray⟩, .int .u64 8] w fun e w' => e = .returned (.tuple #[.int .u64 (gN (getS 8 (Lib.trimRightB t 32) 0) : Nat), .bool (gB (getS 8 (Lib.trimRightB t 32) 0))]) ∧ w' = w := by
  rw [← rget_eq 8 (by decide)]
  exact refGet_8 t h w
theorem getL_10 (t : List UInt8) (h : t.length ≤ 1000000) (w : World) :
    Calls Tryd.prog 9 #[.string ⟨t.toArray⟩, .int .i64 10] w fun e w' => e = .returned (.tuple #[.int .u64 (gN (getS 10 (Lib.trimRightB t 32) 0) : Nat), .bool (gB (getS 10 (Lib.trimRightB t 32) 0))]) ∧ Below w.heap.size w w' :=
  get_10 ⟨t.toArray⟩ (by show t.length ≤ _; omega) w
theorem refGetL_10 (t : List UInt8) (h : t.length ≤ 1000000) (w : World) :
    Calls Tryd.prog 12 #[.string ⟨t.toArray⟩, .int .u64 10] w fun e w' => e = .returned (.tuple #[.int .u64 (gN (getS 10 (Lib.trimRightB t 32) 0) : Nat), .bool (gB (getS 10 (Lib.trimRightB t 32) 0))]) ∧ w' = w := by
  rw [← rget_eq 10 (by decide)]
  exact refGet_10 t h w

theorem gets_law (l : List UInt8) (oct : Bool) (w : World) (ht : Tabs w) :
    Calls Tryd.prog 4 #[.string ⟨l.toArray⟩, .bool oct] w fun e w' => e = .returned (.bool true) ∧ Below w.heap.size w w' := by
  obtain ⟨t, hh⟩ : ∃ t, t = l.take 40 := ⟨_, rfl⟩
  have htl : t.length ≤ 1000000 := by rw [hh, List.length_take]; omega
  have hx := cut_min l 40 40 rfl
  rw [← hh] at hx
  clear hh
  cases oct
  · go_enter Tryd.func4, Tryd.ntmps4
    go_wp2_with (first
      | (go_at_call 7; refine (speaks_any _ ht).mono ?_; rintro e w' ⟨rfl, hb⟩)
      | (go_at_call 9; refine (getL_10 t htl _).mono ?_; rintro e w2 ⟨rfl, hb2⟩)
      | (go_at_call 12; refine (refGetL_10 t htl _).mono ?_; rintro e w3 ⟨rfl, rfl⟩))
    go_ret
    exact ⟨rfl, below_step hb hb2⟩
  · go_enter Tryd.func4, Tryd.ntmps4
    go_wp2_with (first
      | (go_at_call 7; refine (speaks_any _ ht).mono ?_; rintro e w' ⟨rfl, hb⟩)
      | (go_at_call 9; refine (getL_8 t htl _).mono ?_; rintro e w2 ⟨rfl, hb2⟩)
      | (go_at_call 12; refine (refGetL_8 t htl _).mono ?_; rintro e w3 ⟨rfl, rfl⟩))
    go_ret
    exact ⟨rfl, below_step hb hb2⟩
end Go.Proofs.YtnjaijmodkfnjaaDoor

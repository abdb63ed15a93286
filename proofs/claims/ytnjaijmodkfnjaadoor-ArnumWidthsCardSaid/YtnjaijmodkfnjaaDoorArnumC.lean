/- Contracts over this translation: arnum.Put, Width, Fits at every base; the document's Put and Get; the ordinary answers of layer 21. -/
import Derived.Test.YtnjaijmodkfnjaaDoorArnumB
namespace Go.Proofs.YtnjaijmodkfnjaaDoor
set_option linter.unusedVariables false
set_option linter.unusedSimpArgs false
open Go.RowKit Go.Shelf

theorem put_other (n : Nat) (b wd : Int) (h8 : b ≠ 8) (h10 : b ≠ 10) (w : World) :
    Calls Tryd.prog 8 #[.int .u64 n, .int .i64 b, .int .i64 wd] w fun e w' => e = .returned (.tuple #[.string ⟨#[]⟩, .bool false]) ∧ w' = w := by
  have e1 : (b != 8) = true := by simpa using h8
  have e2 : (b != 10) = true := by simpa using h10
  go_enter Tryd.func8, Tryd.ntmps8
  go_wp2
  go_ret2
  exact ⟨rfl, rfl⟩
theorem width_other (n : Nat) (b : Int) (h8 : b ≠ 8) (h10 : b ≠ 10) (w : World) :
    Calls Tryd.prog 14 #[.int .u64 n, .int .i64 b] w fun e w' => e = .returned (.int .i64 0) ∧ w' = w := by
  have e1 : (b != 8) = true := by simpa using h8
  have e2 : (b != 10) = true := by simpa using h10
  go_enter Tryd.func14, Tryd.ntmps14
  go_wp2
  go_ret
  exact ⟨rfl, rfl⟩
theorem fits_other (n : Nat) (b wd : Int) (h8 : b ≠ 8) (h10 : b ≠ 10) (w : World) :
    Calls Tryd.prog 15 #[.int .u64 n, .int .i64 b, .int .i64 wd] w fun e w' => e = .returned (.bool false) ∧ w' = w := by
  go_enter Tryd.func15, Tryd.ntmps15
  go_wp2_with (go_at_call 14; refine (width_other n b h8 h10 _).mono ?_; rintro e w' ⟨rfl, rfl⟩)
  go_ret
  exact ⟨rfl, rfl⟩
theorem conv1 (W : World) (c : UInt8) (z : Int) (hz : z = (c.toNat : Int)) : (convert 37 9 (.slice (some ⟨W.heap.size, 0, none⟩) 1 1)).run Tryd.prog (W.alloc (.cells #[.int .u8 z] 5)) = .ok (.string ⟨#[c]⟩) (W.alloc (.cells #[.int .u8 z] 5)) := by
  subst hz
  exact run_convert_bytes_back (P := Tryd.prog) (W.alloc (.cells #[.int .u8 (c.toNat : Int)] 5)) 37 9 5 ⟨W.heap.size, 0, none⟩ 1 [c] Tryd.underlying37 Tryd.underlying5 Tryd.underlying9 (fun j hj => by
    obtain rfl : j = 0 := by simpa using hj
    rw [Lib.add_plain, World.cell?_alloc_new]; rfl)
theorem dch_dec (d : Nat) (h : d < 10) : 48 + (d : Int) = ((dch d).toNat : Int) := by
  unfold dch
  rw [if_pos h, UInt8.toNat_ofNat_of_lt' (show 48 + d < 256 by omega)]; omega
theorem dch_app (c : UInt8) (l : List UInt8) : (⟨#[c]⟩ : ByteArray) ++ ⟨l.toArray⟩ = ⟨(c :: l).toArray⟩ := by
  rw [← str_append [c] l]; rfl
theorem bdig_pos (b u : Nat) : 0 < (bdig b u).length := by rw [bdig]; split <;> simp
theorem bdig10_le (u : Nat) (h : u < 18446744073709551616) : (bdig 10 u).length ≤ 20 := bdig_length_le 10 u (by decide) 20 (by omega) (by decide)
theorem bdig8_le (u : Nat) (h : u < 18446744073709551616) : (bdig 8 u).length ≤ 22 := bdig_length_le 8 u (by decide) 22 (by omega) (by decide)
theorem width_8 (n : Nat) (hn : n < 18446744073709551616) (w : World) (ht : Tabs w) :
    Calls Tryd.prog 14 #[.int .u64 n, .int .i64 8] w fun e w' => e = .returned (.int .i64 ((bdig 8 n).length : Int)) ∧ Below w.heap.size w w' := by
  have HF := Lib.hid (FormatUint_8 n hn _ ht)
  go_enter Tryd.func14, Tryd.ntmps14
  go_wp2_with (go_at_call 16; refine HF.out.mono ?_; rintro e w' ⟨rfl, hb⟩)
  go_ret
  exact ⟨by simp, hb⟩
theorem fits_8 (n : Nat) (hn : n < 18446744073709551616) (wd : Int) (w : World) (ht : Tabs w) :
    Calls Tryd.prog 15 #[.int .u64 n, .int .i64 8, .int .i64 wd] w fun e w' => e = .returned (.bool (decide (((bdig 8 n).length : Int) ≤ wd))) ∧ Below w.heap.size w w' := by
  have hp := bdig_pos 8 n
  go_enter Tryd.func15, Tryd.ntmps15
  go_wp2_with (go_at_call 14; refine (width_8 n hn _ ht).mono ?_; rintro e w' ⟨rfl, hb⟩)
  all_goals go_ret
  all_goals exact ⟨rfl, hb⟩
set_option maxHeartbeats 1000000 in
theorem refPut_8 (n : Nat) (hn : n < 18446744073709551616) (w : World) :
    Calls Tryd.prog 10 #[.int .u64 n, .int .u64 8] w fun e w' => e = .returned (.string ⟨(bdig 8 n).toArray⟩) ∧ Below w.heap.size w w' := by
  go_enter Tryd.func10, Tryd.ntmps10
  go_wp2
  go_loopw [0, 5] (fun v t wr => ∃ (x : Nat) (l : List UInt8), v = .int .u64 x ∧ t = .string ⟨l.toArray⟩ ∧ Hid (x < 18446744073709551616 ∧ bdig 8 n = bdig 8 x ++ l ∧ Below w.heap.size w wr)) (fun v _ _ => (intOf v).toNat)
  case atStart => exact ⟨n, [], rfl, rfl, ⟨hn, by simp, Below.refl _ _⟩⟩
  case round =>
    obtain ⟨x, l, rfl, rfl, HI⟩ := hrel
    have hx64 := HI.out.1
    by_cases hx : x < 8
    · have kb := fun W => conv1 W (dch x) _ (dch_dec x (by omega))
      have HH := Lib.hid (show bdig 8 n = dch x :: l by rw [HI.out.2.1, bdig_small hx]; rfl)
      have hll : l.length ≤ 30 := by have := congrArg List.length HH.out; have := bdig8_le n hn; simp at *; omega
      go_wp2
      go_ret
      exact ⟨by rw [HH.out, dch_app]; rfl, HI.out.2.2.alloc HI.out.2.2.size _⟩
    · have kb := fun W => conv1 W (dch (x % 8)) (48 + (x : Int) % 8) (dch_dec (x % 8) (by omega))
      have HH := Lib.hid (show bdig 8 n = bdig 8 (x / 8) ++ (dch (x % 8) :: l) by rw [HI.out.2.1, bdig_big (by decide) (by omega)]; simp)
      have hll : l.length ≤ 30 := by have := congrArg List.length HH.out; have := bdig8_le n hn; simp at *; omega
      go_wp2
      exact ⟨⟨x / 8, _, congrArg (Value.int .u64) (by omega), by rw [dch_app], ⟨by have := HI.out.1; omega, HH.out, HI.out.2.2.alloc HI.out.2.2.size _⟩⟩, by simp [intOf]; omega⟩
theorem width_10 (n : Nat) (hn : n < 18446744073709551616) (w : World) (ht : Tabs w) :
    Calls Tryd.prog 14 #[.int .u64 n, .int .i64 10] w fun e w' => e = .returned (.int .i64 ((bdig 10 n).length : Int)) ∧ Below w.heap.size w w' := by
  have HF := Lib.hid (FormatUint_10 n hn _ ht)
  rw [decDigits_bdig] at HF
  go_enter Tryd.func14, Tryd.ntmps14
  go_wp2_with (go_at_call 16; refine HF.out.mono ?_; rintro e w' ⟨rfl, hb⟩)
  go_ret
  exact ⟨by simp, hb⟩
theorem fits_10 (n : Nat) (hn : n < 18446744073709551616) (wd : Int) (w : World) (ht : Tabs w) :
    Calls Tryd.prog 15 #[.int .u64 n, .int .i64 10, .int .i64 wd] w fun e w' => e = .returned (.bool (decide (((bdig 10 n).length : Int) ≤ wd))) ∧ Below w.heap.size w w' := by
  have hp := bdig_pos 10 n
  go_enter Tryd.func15, Tryd.ntmps15
  go_wp2_with (go_at_call 14; refine (width_10 n hn _ ht).mono ?_; rintro e w' ⟨rfl, hb⟩)
  all_goals go_ret
  all_goals exact ⟨rfl, hb⟩
set_option maxHeartbeats 1000000 in
theorem refPut_10 (n : Nat) (hn : n < 18446744073709551616) (w : World) :
    Calls Tryd.prog 10 #[.int .u64 n, .int .u64 10] w fun e w' => e = .returned (.string ⟨(bdig 10 n).toArray⟩) ∧ Below w.heap.size w w' := by
  go_enter Tryd.func10, Tryd.ntmps10
  go_wp2
  go_loopw [0, 5] (fun v t wr => ∃ (x : Nat) (l : List UInt8), v = .int .u64 x ∧ t = .string ⟨l.toArray⟩ ∧ Hid (x < 18446744073709551616 ∧ bdig 10 n = bdig 10 x ++ l ∧ Below w.heap.size w wr)) (fun v _ _ => (intOf v).toNat)
  case atStart => exact ⟨n, [], rfl, rfl, ⟨hn, by simp, Below.refl _ _⟩⟩
  case round =>
    obtain ⟨x, l, rfl, rfl, HI⟩ := hrel
    have hx64 := HI.out.1
    by_cases hx : x < 10
    · have kb := fun W => conv1 W (dch x) _ (dch_dec x (by omega))
      have HH := Lib.hid (show bdig 10 n = dch x :: l by rw [HI.out.2.1, bdig_small hx]; rfl)
      have hll : l.length ≤ 30 := by have := congrArg List.length HH.out; have := bdig10_le n hn; simp at *; omega
      go_wp2
      go_ret
      exact ⟨by rw [HH.out, dch_app]; rfl, HI.out.2.2.alloc HI.out.2.2.size _⟩
    · have kb := fun W => conv1 W (dch (x % 10)) (48 + (x : Int) % 10) (dch_dec (x % 10) (by omega))
      have HH := Lib.hid (show bdig 10 n = bdig 10 (x / 10) ++ (dch (x % 10) :: l) by rw [HI.out.2.1, bdig_big (by decide) (by omega)]; simp)
      have hll : l.length ≤ 30 := by have := congrArg List.length HH.out; have := bdig10_le n hn; simp at *; omega
      go_wp2
      exact ⟨⟨x / 10, _, congrArg (Value.int .u64) (by omega), by rw [dch_app], ⟨by have := HI.out.1; omega, HH.out, HI.out.2.2.alloc HI.out.2.2.size _⟩⟩, by simp [intOf]; omega⟩
end Go.Proofs.YtnjaijmodkfnjaaDoor

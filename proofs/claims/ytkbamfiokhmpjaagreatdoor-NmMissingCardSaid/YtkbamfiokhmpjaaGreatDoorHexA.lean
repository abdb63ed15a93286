/- Contracts of Go's library over this translation: math/bits.TrailingZeros at 8 and 16; internal/strconv.isPowerOfTwo at 8 and 16. Condition: the table of math/bits reads as its initialiser lays it. -/
import Derived.Test.YtkbamfiokhmpjaaGreatDoorProg
import Derived.Test.YtkbamfiokhmpjaaGreatDoorKit
import Derived.Laws.BitsLemmas
import Derived.Laws.IdiomStrings
import Derived.Test.YtkbamfiokhmpjaaGreatDoorShelf
import Derived.Lib.ItoaLen
import Derived.Lib.ItoaWalk
import Derived.Lib.SlBuf
import Derived.Test.YtkbamfiokhmpjaaGreatDoorBridge
namespace Go.Proofs.YtkbamfiokhmpjaaGreatDoor
set_option linter.unusedVariables false
set_option linter.unusedSimpArgs false
open Go.RowKit

/-- The table of math/bits.TrailingZeros64. -/
def deb64 : List Int := [0, 1, 56, 2, 57, 49, 28, 3, 61, 58, 42, 50, 38, 29, 17, 4, 62, 47, 59, 36, 45, 43, 51, 22, 53, 39, 33, 30, 24, 18, 12, 5, 63, 55, 48, 27, 60, 41, 37, 16, 46, 35, 44, 21, 52, 32, 23, 11, 54, 26, 40, 15, 34, 20, 31, 10, 25, 14, 19, 9, 13, 8, 7, 6]
theorem gDeb64 : Tryz.prog.globalNamed "math/bits.deBruijn64tab" = some 6 := by kernel_rfl

theorem ix_8 : IntKind.u64.wrap (bits BinOp.and IntKind.u64 8 (IntKind.u64.wrap (-8)) * 285870213051353865) / 288230376151711744 = 7 := by decide +kernel
theorem ix_16 : IntKind.u64.wrap (bits BinOp.and IntKind.u64 16 (IntKind.u64.wrap (-16)) * 285870213051353865) / 288230376151711744 = 15 := by decide +kernel
set_option maxHeartbeats 1000000 in
theorem tz_8 (w : World) (ht : Lib.TabIs Tryz.prog w "math/bits.deBruijn64tab" .u8 deb64) :
    Calls Tryz.prog 96 #[.int .u64 8] w fun e w' => e = .returned (.int .i64 3) ∧ w' = w := by
  have c8 : w.cell? ⟨6, 7, none⟩ = some (.int .u8 3) := ht.cell gDeb64 7 (by decide)
  have e := ix_8
  go_enter Tryz.func96, Tryz.ntmps96
  go_wp2
  go_ret
  exact ⟨rfl, rfl⟩

theorem tz_16 (w : World) (ht : Lib.TabIs Tryz.prog w "math/bits.deBruijn64tab" .u8 deb64) :
    Calls Tryz.prog 96 #[.int .u64 16] w fun e w' => e = .returned (.int .i64 4) ∧ w' = w := by
  have c8 : w.cell? ⟨6, 15, none⟩ = some (.int .u8 4) := ht.cell gDeb64 15 (by decide)
  have e := ix_16
  go_enter Tryz.func96, Tryz.ntmps96
  go_wp2
  go_ret
  exact ⟨rfl, rfl⟩

/-- A digit's sign. -/
def dch (d : Nat) : UInt8 := UInt8.ofNat (if d < 10 then 48 + d else 87 + d)
/-- The digits of u in a base, the first ahead. -/
def bdig (b u : Nat) : List UInt8 :=
  if _h : u < b ∨ b < 2 then [dch u] else bdig b (u / b) ++ [dch (u % b)]
termination_by u
decreasing_by exact Nat.div_lt_self (by omega) (by omega)
theorem bdig_small {b u : Nat} (h : u < b) : bdig b u = [dch u] := by rw [bdig, dif_pos (.inl h)]
theorem bdig_big {b u : Nat} (hb : 2 ≤ b) (h : b ≤ u) : bdig b u = bdig b (u / b) ++ [dch (u % b)] := by rw [bdig, dif_neg (by omega)]
end Go.Proofs.YtkbamfiokhmpjaaGreatDoor

/- Contracts of Go's library over this translation: internal/strconv.formatBits at base 8 and 16. Condition: the table of math/bits reads as its initialiser lays it. -/
namespace Go.Proofs.YtkbamfiokhmpjaaGreatDoor
set_option linter.unusedVariables false
set_option linter.unusedSimpArgs false
set_option maxRecDepth 8192
open Go.RowKit

/-- The constant 'digits' of internal/strconv. -/
def digs36 : ByteArray := ⟨#[48, 49, 50, 51, 52, 53, 54, 55, 56, 57, 97, 98, 99, 100, 101, 102, 103, 104, 105, 106, 107, 108, 109, 110, 111, 112, 113, 114, 115, 116, 117, 118, 119, 120, 121, 122]⟩
theorem digs36_fin : ∀ x : Fin 36, digs36.data.toList.getD x.val 0 = dch x.val := by decide +kernel
theorem digs36_at (x : Nat) (h : x < digs36.size) : digs36[x] = dch x := by
  have h' : x < 36 := h
  have := digs36_fin ⟨x, h'⟩
  simp only at this
  rw [← this]
  show digs36.data[x] = _
  rw [List.getD_eq_getElem?_getD, Array.getElem?_toList, Array.getElem?_eq_getElem]
  rfl

/-- What the stores of formatBits keep: from place q + 1 on the row holds the last digits of u; x is what is left of it. -/
structure FB (b m u x q : Nat) (arr : Array Value) : Prop where
  size : arr.size = 65
  lt : x < b ^ (q + 1 - m)
  le : m ≤ q
  top : q ≤ 64
  digs : ∃ t : List UInt8, t.length = 64 - q ∧ bdig b u = bdig b x ++ t ∧ ∀ i (h : i < t.length), arr[q + 1 + i]? = some (.int .u8 (t[i].toNat : Int))
theorem FB.start {b m u : Nat} {arr : Array Value} (hs : arr.size = 65) (hm : m ≤ 64) (h : u < b ^ (65 - m)) : FB b m u u 64 arr :=
  ⟨hs, h, hm, Nat.le_refl _, [], rfl, by simp, fun i h => absurd h (by simp)⟩
theorem FB.pos {b m u x q : Nat} {arr : Array Value} (h : FB b m u x q arr) (hx : b ≤ x) : m < q := by
  have := h.le
  rcases Nat.lt_or_ge m q with hh | hh
  · exact hh
  · have : q + 1 - m = 1 := by omega
    have hl := h.lt
    rw [this, Nat.pow_one] at hl; omega
theorem FB.step {b m u x q : Nat} {arr : Array Value} (h : FB b m u x (q + 1) arr) (hb : 2 ≤ b) (hm : m ≤ q) (hx : b ≤ x) :
    FB b m u (x / b) q (arr.setIfInBounds (q + 1) (.int .u8 ((dch (x % b)).toNat : Int))) := by
  obtain ⟨hs, hl, hle, ht, t, tl, te, tc⟩ := h
  refine ⟨by simpa using hs, ?_, hm, by omega, dch (x % b) :: t, by simp [tl]; omega, ?_, fun i hi => ?_⟩
  · rw [show q + 1 + 1 - m = (q + 1 - m) + 1 by omega, Nat.pow_succ] at hl
    exact Nat.div_lt_of_lt_mul (by rw [Nat.mul_comm]; exact hl)
  · rw [te, bdig_big hb hx]; simp
  · cases i with
    | zero => simp [Array.getElem?_setIfInBounds, hs]; omega
    | succ i =>
      have hi' : i < t.length := by simpa using hi
      rw [Array.getElem?_setIfInBounds, if_neg (by omega), show q + 1 + (i + 1) = q + 1 + 1 + i by omega]
      simpa using tc i hi'
theorem FB.last {b m u x q : Nat} {arr : Array Value} (h : FB b m u x q arr) (hx : x < b) :
    (bdig b u).length = 65 - q ∧ ∀ i (hi : i < (bdig b u).length), (arr.setIfInBounds q (.int .u8 ((dch x).toNat : Int)))[q + i]? = some (.int .u8 ((bdig b u)[i].toNat : Int)) := by
  obtain ⟨hs, hl, hle, ht, t, tl, te, tc⟩ := h
  have e : bdig b u = dch x :: t := by rw [te, bdig_small hx]; rfl
  rw [e]
  refine ⟨by simp [tl]; omega, fun i hi => ?_⟩
  cases i with
  | zero => simp [Array.getElem?_setIfInBounds, hs]; omega
  | succ i =>
    have hi' : i < t.length := by simpa using hi
    rw [Array.getElem?_setIfInBounds, if_neg (by omega), show q + (i + 1) = q + 1 + i by omega]
    simpa using tc i hi'
theorem pow2_8 (w : World) : Calls Tryz.prog 95 #[.int .i64 8] w fun e w' => e = .returned (.bool true) ∧ w' = w := by
  have ep : (bits BinOp.and IntKind.i64 8 7 == 0) = true := by decide +kernel
  go_enter Tryz.func95, Tryz.ntmps95
  go_wp2
  go_ret
  exact ⟨rfl, rfl⟩
theorem and_8 (x : Nat) (hx : x < 18446744073709551616) : bits .and .u64 (x : Int) 7 = ((x % 8 : Nat) : Int) := by
  have := bits_mask .u64 64 (by decide) (fun n h0 h1 => by rw [IntKind.wrap_u64]; omega) 3 (by decide) x (by omega) (by omega)
  simpa using this
theorem u64_of_FB_8 {u x q : Nat} {arr : Array Value} (h : FB 8 43 u x q arr) : x < 18446744073709551616 ∨ 8 ^ (q + 1 - 43) > 18446744073709551616 := by
  rcases Nat.lt_or_ge x 18446744073709551616 with hh | hh
  · exact .inl hh
  · exact .inr (Nat.lt_of_le_of_lt hh h.lt)

set_option maxHeartbeats 1000000 in
/-- internal/strconv.formatBits at base 8. -/
theorem formatBits_8 (u : Nat) (hu : u < 18446744073709551616) (w : World) (ht : Lib.TabIs Tryz.prog w "math/bits.deBruijn64tab" .u8 deb64) :
    Calls Tryz.prog 79 #[.slice none 0 0, .int .u64 u, .int .i64 8, .bool false, .bool false] w fun e w' => e = .returned (.tuple #[.slice none 0 0, .string ⟨(bdig 8 u).toArray⟩]) ∧ Below w.heap.size w w' := by
  have hal : Tryz.prog.arrayLen 178 = 65 := by simp [Program.arrayLen, Tryz.underlying178]
  go_enter Tryz.func79, Tryz.ntmps79
  go_wp2_with (first | (go_at_call 95; refine (pow2_8 _).mono ?_; rintro e w' ⟨rfl, rfl⟩) | (go_at_call 96; refine (tz_8 _ (Lib.tabIs_alloc ht _)).mono ?_; rintro e w' ⟨rfl, rfl⟩))
  go_loopw [1, 13] (fun v i wr => ∃ (x q : Nat) (arr : Array Value), v = .int .u64 x ∧ i = .int .i64 ((q + 1 : Nat) : Int) ∧ wr = w.alloc (.cells arr 178) ∧ Hid (x < 18446744073709551616 ∧ FB 8 43 u x q arr)) (fun v _ _ => (intOf v).toNat)
  case atStart => exact ⟨u, 64, _, rfl, rfl, rfl, ⟨hu, FB.start (by decide +kernel) (by decide) (Nat.lt_of_lt_of_le hu (by decide +kernel))⟩⟩
  case round =>
    obtain ⟨x, q, arr, rfl, rfl, rfl, HF⟩ := hrel
    have hq : q ≤ 64 := HF.out.2.top
    obtain ⟨c, hc⟩ : ∃ c, arr[q]? = some c := ⟨arr[q]'(by rw [HF.out.2.size]; omega), by rw [Array.getElem?_eq_getElem]⟩
    by_cases hx : x < 8
    · have e1 : decide ((8 : Int) ≤ (x : Int)) = false := by simp; omega
      have hx36 : x < digs36.size := by have : digs36.size = 36 := rfl; omega
      have hL := HF.out.2.last hx
      have hsl : ∀ W, (Instr.sliceAt 178 (.pointer (some ⟨w.heap.size, 0, none⟩)) (some (.int .i64 (q : Int))) none none).run Tryz.prog W = .ok (.slice (some ⟨w.heap.size, q, none⟩) (65 - q) (65 - q)) W := fun W => by
        rw [run_sliceAt_array_l W 178 ⟨w.heap.size, 0, none⟩ (by simp [Program.arrayLen, Program.elem, Tryz.underlying178]) .i64 (q : Int) (by omega) (by rw [hal]; omega)]
        go_simp
        omega
      have hcv : ∀ cv : Value, cv = .int .u8 ((dch x).toNat : Int) → (convert 119 9 (.slice (some ⟨w.heap.size, q, none⟩) (65 - q) (65 - q))).run Tryz.prog (w.alloc (.cells (arr.setIfInBounds q cv) 178)) = .ok (.string ⟨(bdig 8 u).toArray⟩) (w.alloc (.cells (arr.setIfInBounds q cv) 178)) := fun cv e => by
        subst e
        have h := run_convert_bytes_back (P := Tryz.prog) (w.alloc (.cells (arr.setIfInBounds q (.int .u8 ((dch x).toNat : Int))) 178)) 119 9 5 ⟨w.heap.size, q, none⟩ (65 - q) (bdig 8 u) Tryz.underlying119 Tryz.underlying5 Tryz.underlying9 (fun j hj => by
          rw [Lib.add_plain, World.cell?_alloc_new]
          exact hL.2 j hj)
        rw [hL.1] at h
        exact h
      have HL := Lib.hid hcv
      clear hL hcv
      go_wp2
      rw [HL.out]
      rotate_left
      · exact congrArg (fun b : UInt8 => Value.int .u8 (b.toNat : Int)) (digs36_at x hx36)
      go_wp2
      go_ret2
      exact ⟨rfl, (Below.refl _ _).alloc (Nat.le_refl _) _⟩
    · have e1 : decide ((8 : Int) ≤ (x : Int)) = true := by simp; omega
      have e2 := and_8 x HF.out.1
      have hq1 := HF.out.2.pos (by omega)
      have hx36 : x % 8 < digs36.size := by have : digs36.size = 36 := rfl; omega
      obtain ⟨q, rfl⟩ : ∃ p, q = p + 1 := ⟨q - 1, by omega⟩
      have HS := Lib.hid (HF.out.2.step (by decide) (by omega) (Nat.le_of_not_lt hx))
      rw [← digs36_at _ hx36] at HS
      go_wp2
      exact ⟨⟨x / 8, q, _, congrArg (Value.int .u64) (by omega), congrArg (Value.int .i64) (by omega), rfl, ⟨by have := HF.out.1; omega, HS.out⟩⟩, by simp [intOf]; omega⟩
theorem pow2_16 (w : World) : Calls Tryz.prog 95 #[.int .i64 16] w fun e w' => e = .returned (.bool true) ∧ w' = w := by
  have ep : (bits BinOp.and IntKind.i64 16 15 == 0) = true := by decide +kernel
  go_enter Tryz.func95, Tryz.ntmps95
  go_wp2
  go_ret
  exact ⟨rfl, rfl⟩
theorem and_16 (x : Nat) (hx : x < 18446744073709551616) : bits .and .u64 (x : Int) 15 = ((x % 16 : Nat) : Int) := by
  have := bits_mask .u64 64 (by decide) (fun n h0 h1 => by rw [IntKind.wrap_u64]; omega) 4 (by decide) x (by omega) (by omega)
  simpa using this
theorem u64_of_FB_16 {u x q : Nat} {arr : Array Value} (h : FB 16 48 u x q arr) : x < 18446744073709551616 ∨ 16 ^ (q + 1 - 48) > 18446744073709551616 := by
  rcases Nat.lt_or_ge x 18446744073709551616 with hh | hh
  · exact .inl hh
  · exact .inr (Nat.lt_of_le_of_lt hh h.lt)

set_option maxHeartbeats 1000000 in
/-- internal/strconv.formatBits at base 16. -/
theorem formatBits_16 (u : Nat) (hu : u < 18446744073709551616) (w : World) (ht : Lib.TabIs Tryz.prog w "math/bits.deBruijn64tab" .u8 deb64) :
    Calls Tryz.prog 79 #[.slice none 0 0, .int .u64 u, .int .i64 16, .bool false, .bool false] w fun e w' => e = .returned (.tuple #[.slice none 0 0, .string ⟨(bdig 16 u).toArray⟩]) ∧ Below w.heap.size w w' := by
  have hal : Tryz.prog.arrayLen 178 = 65 := by simp [Program.arrayLen, Tryz.underlying178]
  go_enter Tryz.func79, Tryz.ntmps79
  go_wp2_with (first | (go_at_call 95; refine (pow2_16 _).mono ?_; rintro e w' ⟨rfl, rfl⟩) | (go_at_call 96; refine (tz_16 _ (Lib.tabIs_alloc ht _)).mono ?_; rintro e w' ⟨rfl, rfl⟩))
  go_loopw [1, 13] (fun v i wr => ∃ (x q : Nat) (arr : Array Value), v = .int .u64 x ∧ i = .int .i64 ((q + 1 : Nat) : Int) ∧ wr = w.alloc (.cells arr 178) ∧ Hid (x < 18446744073709551616 ∧ FB 16 48 u x q arr)) (fun v _ _ => (intOf v).toNat)
  case atStart => exact ⟨u, 64, _, rfl, rfl, rfl, ⟨hu, FB.start (by decide +kernel) (by decide) (Nat.lt_of_lt_of_le hu (by decide +kernel))⟩⟩
  case round =>
    obtain ⟨x, q, arr, rfl, rfl, rfl, HF⟩ := hrel
    have hq : q ≤ 64 := HF.out.2.top
    obtain ⟨c, hc⟩ : ∃ c, arr[q]? = some c := ⟨arr[q]'(by rw [HF.out.2.size]; omega), by rw [Array.getElem?_eq_getElem]⟩
    by_cases hx : x < 16
    · have e1 : decide ((16 : Int) ≤ (x : Int)) = false := by simp; omega
      have hx36 : x < digs36.size := by have : digs36.size = 36 := rfl; omega
      have hL := HF.out.2.last hx
      have hsl : ∀ W, (Instr.sliceAt 178 (.pointer (some ⟨w.heap.size, 0, none⟩)) (some (.int .i64 (q : Int))) none none).run Tryz.prog W = .ok (.slice (some ⟨w.heap.size, q, none⟩) (65 - q) (65 - q)) W := fun W => by
        rw [run_sliceAt_array_l W 178 ⟨w.heap.size, 0, none⟩ (by simp [Program.arrayLen, Program.elem, Tryz.underlying178]) .i64 (q : Int) (by omega) (by rw [hal]; omega)]
        go_simp
        omega
      have hcv : ∀ cv : Value, cv = .int .u8 ((dch x).toNat : Int) → (convert 119 9 (.slice (some ⟨w.heap.size, q, none⟩) (65 - q) (65 - q))).run Tryz.prog (w.alloc (.cells (arr.setIfInBounds q cv) 178)) = .ok (.string ⟨(bdig 16 u).toArray⟩) (w.alloc (.cells (arr.setIfInBounds q cv) 178)) := fun cv e => by
        subst e
        have h := run_convert_bytes_back (P := Tryz.prog) (w.alloc (.cells (arr.setIfInBounds q (.int .u8 ((dch x).toNat : Int))) 178)) 119 9 5 ⟨w.heap.size, q, none⟩ (65 - q) (bdig 16 u) Tryz.underlying119 Tryz.underlying5 Tryz.underlying9 (fun j hj => by
          rw [Lib.add_plain, World.cell?_alloc_new]
          exact hL.2 j hj)
        rw [hL.1] at h
        exact h
      have HL := Lib.hid hcv
      clear hL hcv
      go_wp2
      rw [HL.out]
      rotate_left
      · exact congrArg (fun b : UInt8 => Value.int .u8 (b.toNat : Int)) (digs36_at x hx36)
      go_wp2
      go_ret2
      exact ⟨rfl, (Below.refl _ _).alloc (Nat.le_refl _) _⟩
    · have e1 : decide ((16 : Int) ≤ (x : Int)) = true := by simp; omega
      have e2 := and_16 x HF.out.1
      have hq1 := HF.out.2.pos (by omega)
      have hx36 : x % 16 < digs36.size := by have : digs36.size = 36 := rfl; omega
      obtain ⟨q, rfl⟩ : ∃ p, q = p + 1 := ⟨q - 1, by omega⟩
      have HS := Lib.hid (HF.out.2.step (by decide) (by omega) (Nat.le_of_not_lt hx))
      rw [← digs36_at _ hx36] at HS
      go_wp2
      exact ⟨⟨x / 16, q, _, congrArg (Value.int .u64) (by omega), congrArg (Value.int .i64) (by omega), rfl, ⟨by have := HF.out.1; omega, HS.out⟩⟩, by simp [intOf]; omega⟩
end Go.Proofs.YtkbamfiokhmpjaaGreatDoor

/- Contracts of Go's library over this translation: strconv.FormatUint at base 8, 10 and 16. Conditions: the tables of math/bits and internal/strconv read as their initialisers lay them. -/
namespace Go.Proofs.YtkbamfiokhmpjaaGreatDoor
set_option linter.unusedVariables false
set_option linter.unusedSimpArgs false
set_option maxRecDepth 8192
open Go.RowKit Go.Sort

/-- The tables that strconv reads stand as their initialisers lay them. -/
structure Tabs (w : World) : Prop where
  deb : Lib.TabIs Tryz.prog w "math/bits.deBruijn64tab" .u8 deb64
  pow : Lib.TabIs Tryz.prog w "internal/strconv.uint64pow10" .u64 Lib.pow10Tab

theorem FormatUintI_8 (u : Nat) (hu : u < 18446744073709551616) (w : World) (ht : Tabs w) :
    Calls Tryz.prog 53 #[.int .u64 u, .int .i64 8] w fun e w' => e = .returned (.string ⟨(bdig 8 u).toArray⟩) ∧ Below w.heap.size w w' := by
  go_enter Tryz.func53, Tryz.ntmps53
  go_wp2_with (go_at_call 79; refine (formatBits_8 u hu _ ht.deb).mono ?_; rintro e w' ⟨rfl, hb⟩)
  go_ret
  exact ⟨rfl, hb⟩
theorem FormatUintI_16 (u : Nat) (hu : u < 18446744073709551616) (w : World) (ht : Tabs w) :
    Calls Tryz.prog 53 #[.int .u64 u, .int .i64 16] w fun e w' => e = .returned (.string ⟨(bdig 16 u).toArray⟩) ∧ Below w.heap.size w w' := by
  go_enter Tryz.func53, Tryz.ntmps53
  go_wp2_with (go_at_call 79; refine (formatBits_16 u hu _ ht.deb).mono ?_; rintro e w' ⟨rfl, hb⟩)
  go_ret
  exact ⟨rfl, hb⟩
theorem FormatUintI_10 (u : Nat) (hu64 : u < 18446744073709551616) (w : World) (ht : Tabs w) :
    Calls Tryz.prog 53 #[.int .u64 u, .int .i64 10] w fun e w' => e = .returned (.string ⟨(Lib.decDigits u).toArray⟩) ∧ Below w.heap.size w w' := by
  by_cases hi : u < 100
  · go_enter Tryz.func53, Tryz.ntmps53
    go_wp2_with (go_at_call 76; refine (Tryz.internal_strconv_small u hi _).mono ?_; rintro e w' ⟨rfl, rfl⟩)
    go_ret
    exact ⟨rfl, Below.refl _ _⟩
  · have hu1 : 1 ≤ u := by omega
    have hnd20 := Lib.nDigits_le20 u hu64
    have hal : Tryz.prog.arrayLen 158 = 24 := by simp [Program.arrayLen, Tryz.underlying158]
    have hsl : ∀ W, (Instr.sliceAt 158 (.pointer (some ⟨w.heap.size, 0, none⟩)) none (some (.int .i64 (Lib.nDigits u : Int))) none).run Tryz.prog W = .ok (.slice (some ⟨w.heap.size, 0, none⟩) (Lib.nDigits u) 24) W := fun W => by
      rw [run_sliceAt_array_h W 158 ⟨w.heap.size, 0, none⟩ (by simp [Program.arrayLen, Program.elem, Tryz.underlying158]) .i64 (Lib.nDigits u : Int) (by omega) (by rw [hal]; omega)]
      go_simp
    have hH0 : Holds (fun (b : UInt8) => Value.int .u8 (b.toNat : Int)) (w.alloc (.cells Lib.zeros24 158)) w.heap.size 0 (Array.replicate (Lib.nDigits u) (0 : UInt8)) := fun j hj => by
      have hj' : j < Lib.nDigits u := by simpa using hj
      refine ⟨?_, World.frozen?_alloc_new _ _ _ _⟩
      rw [World.cell?_alloc_new, Lib.zeros24_at _ (by omega), getElem!_pos _ j hj]
      simp
    have hfmt := Tryz.internal_strconv_formatBase10 w.heap.size 0 24 u (Array.replicate (Lib.nDigits u) 0) (w.alloc (.cells Lib.zeros24 158)) hH0 (by rw [Array.size_replicate]; exact Lib.lt_pow_nDigits u) hu64 (by rw [Array.size_replicate]; omega)
    rw [Array.size_replicate] at hfmt
    have HH0 := Lib.hid hH0
    clear hH0 hal
    have HF := Lib.hid hfmt
    clear hfmt
    go_enter Tryz.func53, Tryz.ntmps53
    go_wp2_with (first
      | (go_at_call 77; refine (Tryz.internal_strconv_numDigits u hu1 hu64 _ (Lib.tabIs_alloc ht.pow _)).mono ?_; rintro e w' ⟨rfl, rfl⟩))
    refine HF.out.mono ?_
    rintro e w' ⟨rfl, k, v', dk, rfl, hF⟩
    have hcv : (convert 119 9 (.slice (some ⟨w.heap.size, 0, none⟩) (Lib.nDigits u) 24)).run Tryz.prog ((putRow (fun (b : UInt8) => Value.int .u8 (b.toNat : Int)) (w.alloc (.cells Lib.zeros24 158)) w.heap.size 0 dk).drewN k) = .ok (.string ⟨(Lib.decDigits u).toArray⟩) ((putRow (fun (b : UInt8) => Value.int .u8 (b.toNat : Int)) (w.alloc (.cells Lib.zeros24 158)) w.heap.size 0 dk).drewN k) := by
      have h := run_convert_bytes_back (P := Tryz.prog) ((putRow (fun (b : UInt8) => Value.int .u8 (b.toNat : Int)) (w.alloc (.cells Lib.zeros24 158)) w.heap.size 0 dk).drewN k) 119 9 5 ⟨w.heap.size, 0, none⟩ 24 (Lib.decDigits u) Tryz.underlying119 Tryz.underlying5 Tryz.underlying9 (fun j hj => by
        rw [Lib.row_is_numeral hF j hj, Lib.add_plain, World.cell?_drewN]
        exact cell?_putRow (fun (b : UInt8) => Value.int .u8 (b.toNat : Int)) _ w.heap.size 0 _ dk HH0.out (by rw [hF.size, Array.size_replicate]) j (by rw [hF.size]; rw [Lib.decDigits_length] at hj; exact hj))
      rw [Lib.decDigits_length] at h
      exact h
    go_wp2
    go_ret
    exact ⟨rfl, below_putRow_new _ _ _ _ _ _⟩
theorem FormatUint_8 (u : Nat) (hu : u < 18446744073709551616) (w : World) (ht : Tabs w) :
    Calls Tryz.prog 37 #[.int .u64 u, .int .i64 8] w fun e w' => e = .returned (.string ⟨(bdig 8 u).toArray⟩) ∧ Below w.heap.size w w' := by
  go_enter Tryz.func37, Tryz.ntmps37
  go_wp2_with (go_at_call 53; refine (FormatUintI_8 u hu _ ht).mono ?_; rintro e w' ⟨rfl, hb⟩)
  go_ret
  exact ⟨rfl, hb⟩
theorem FormatUint_16 (u : Nat) (hu : u < 18446744073709551616) (w : World) (ht : Tabs w) :
    Calls Tryz.prog 37 #[.int .u64 u, .int .i64 16] w fun e w' => e = .returned (.string ⟨(bdig 16 u).toArray⟩) ∧ Below w.heap.size w w' := by
  go_enter Tryz.func37, Tryz.ntmps37
  go_wp2_with (go_at_call 53; refine (FormatUintI_16 u hu _ ht).mono ?_; rintro e w' ⟨rfl, hb⟩)
  go_ret
  exact ⟨rfl, hb⟩
theorem FormatUint_10 (u : Nat) (hu : u < 18446744073709551616) (w : World) (ht : Tabs w) :
    Calls Tryz.prog 37 #[.int .u64 u, .int .i64 10] w fun e w' => e = .returned (.string ⟨(Lib.decDigits u).toArray⟩) ∧ Below w.heap.size w w' := by
  go_enter Tryz.func37, Tryz.ntmps37
  go_wp2_with (go_at_call 53; refine (FormatUintI_10 u hu _ ht).mono ?_; rintro e w' ⟨rfl, hb⟩)
  go_ret
  exact ⟨rfl, hb⟩
theorem tabs_of_laid {W : World} {l : List (String × DataW Unit)} (h : laidMet Tryz.prog l W) (h1 : ("math/bits.deBruijn64tab", Lib.tabData .u8 deb64) ∈ l) (h2 : ("internal/strconv.uint64pow10", Lib.tabData .u64 Lib.pow10Tab) ∈ l) : Tabs W :=
  ⟨tabIs_of_mem gDeb64 (by kernel_rfl) Tryz.underlying195 Tryz.underlying5 (by kernel_rfl) (by kernel_rfl) h h1,
   tabIs_of_mem (g := 0) (by kernel_rfl) (by kernel_rfl) Tryz.underlying177 Tryz.underlying27 (by kernel_rfl) (by kernel_rfl) h h2⟩
theorem Tabs.below {w w' : World} (h : Tabs w) (hb : Below w.heap.size w w') : Tabs w' := ⟨tabIs_below h.deb hb, tabIs_below h.pow hb⟩
end Go.Proofs.YtkbamfiokhmpjaaGreatDoor

/- Contracts over this translation: cells.Hex, cells.Dec. -/
namespace Go.Proofs.YtkbamfiokhmpjaaGreatDoor
set_option linter.unusedVariables false
set_option linter.unusedSimpArgs false
open Go.RowKit Go.Proofs.YtkbamfiokhmpjaaGreatDoorW.PrintWords Go.Proofs.YtkbamfiokhmpjaaGreatDoorW.PrintLast Go.Proofs.YtkbamfiokhmpjaaGreatDoorW.PrintMore
attribute [local go_sem] max2_int min2_int max_two min_two

/-- So many noughts. -/
def padL (x : Int) : List UInt8 := List.replicate x.toNat 48
theorem padL_len (x : Int) : (padL x).length = x.toNat := by unfold padL; simp
theorem repeat_one (c : UInt8) : ∀ n, Lib.repeatL [c] n = List.replicate n c
  | 0 => rfl
  | n + 1 => by unfold Lib.repeatL; rw [repeat_one c n]; rfl
theorem noughts_any (x : Int) (h0 : 0 ≤ x) (h1 : x ≤ 1000) (w : World) : Calls Tryz.prog 23 #[.string ⟨#[48]⟩, .int .i64 x] w fun e w' => e = .returned (.string ⟨(padL x).toArray⟩) ∧ Below w.heap.size w w' := by
  obtain ⟨n, rfl⟩ := Int.eq_ofNat_of_zero_le h0
  have h := Tryz.strings_Repeat ⟨#[48]⟩ n w (by omega) (by show 1 * n ≤ _; omega)
  have e : Lib.repeatL (⟨#[48]⟩ : ByteArray).data.toList n = padL n := by
    show Lib.repeatL [48] n = _
    rw [repeat_one]; rfl
  rw [e] at h
  exact h
/-- What pads a number: noughts up to a width. -/
def padN (width : Int) (len : Nat) : Int := (if (if 16 < width then 16 else width) < (len : Int) then (len : Int) else (if 16 < width then 16 else width)) - (len : Int)
def hexR (n : Nat) (width : Int) : List UInt8 := padL (padN width (bdig 16 n).length) ++ bdig 16 n
theorem bdig_len (b : Nat) (hb : 2 ≤ b) : ∀ (k n : Nat), n < b ^ k → 0 < k → (bdig b n).length ≤ k
  | 0, n, _, h => by omega
  | k + 1, n, h, _ => by
    by_cases hs : n < b
    · rw [bdig_small hs]; simp
    · rw [bdig_big hb (by omega), List.length_append, List.length_singleton]
      have hk : 0 < k := by
        rcases Nat.eq_zero_or_pos k with h0 | h0
        · subst h0; simp at h; omega
        · exact h0
      have := bdig_len b hb k (n / b) (by rw [Nat.div_lt_iff_lt_mul (by omega)]; rw [Nat.pow_succ] at h; exact h) hk
      omega
theorem hex_len (n : Nat) (hn : n < 18446744073709551616) : (bdig 16 n).length ≤ 16 := bdig_len 16 (by decide) 16 n (by simpa using hn) (by decide)
set_option maxRecDepth 100000 in
set_option maxHeartbeats 1000000 in
theorem hex_any (n : Nat) (hn : n < 18446744073709551616) (width : Int) (h0 : -9223372036854775808 ≤ width) (h1 : width ≤ 9223372036854775807) (w : World) (ht : Tabs w) :
    Calls Tryz.prog 22 #[.int .u64 n, .int .i64 width] w fun e w' => e = .returned (.string ⟨(hexR n width).toArray⟩) ∧ Below w.heap.size w w' := by
  have hl := hex_len n hn
  have HF := Lib.hid (fun W h => FormatUint_16 n hn W h)
  have HT := Lib.hid ht
  clear ht
  obtain ⟨s, hs⟩ : ∃ s, s = bdig 16 n := ⟨_, rfl⟩
  rw [← hs] at HF hl
  have HR := Lib.hid (show hexR n width = padL (padN width s.length) ++ s by rw [hs]; rfl)
  clear hs
  by_cases ha : (16 : Int) < width
  · have hb : ¬ (16 : Int) < (s.length : Int) := by omega
    have hp : padN width s.length = 16 - (s.length : Int) := by unfold padN; rw [if_pos ha, if_neg hb]
    have hpl := padL_len (16 - (s.length : Int))
    have hc : ¬ (9223372036854775807 < (padL (16 - (s.length : Int))).length + s.length) := by omega
    have HP := Lib.hid hp
    clear hp hpl
    go_enter Tryz.func22, Tryz.ntmps22
    go_wp2_with (first
      | (go_at_call 37; refine (HF.out _ HT.out).mono ?_; rintro e w1 ⟨rfl, hb1⟩; have HB1 := Lib.hid hb1; clear hb1)
      | (go_at_call 23; refine (noughts_any _ (by omega) (by omega) _).mono ?_; rintro e w2 ⟨rfl, hb2⟩; have HB2 := Lib.hid hb2; clear hb2))
    go_ret
    exact ⟨by rw [HR.out, HP.out]; rfl, HB1.out.trans (HB2.out.mono HB1.out.size)⟩
  · by_cases hb : width < (s.length : Int)
    · have hp : padN width s.length = 0 := by unfold padN; rw [if_neg ha, if_pos hb]; omega
      have hpl := padL_len 0
      have hc : ¬ (9223372036854775807 < (padL 0).length + s.length) := by rw [hpl]; simp; omega
      have HP := Lib.hid hp
      clear hp hpl
      go_enter Tryz.func22, Tryz.ntmps22
      go_wp2_with (first
        | (go_at_call 37; refine (HF.out _ HT.out).mono ?_; rintro e w1 ⟨rfl, hb1⟩; have HB1 := Lib.hid hb1; clear hb1)
        | (go_at_call 23; refine (noughts_any _ (by omega) (by omega) _).mono ?_; rintro e w2 ⟨rfl, hb2⟩; have HB2 := Lib.hid hb2; clear hb2))
      go_ret
      exact ⟨by rw [HR.out, HP.out]; rfl, HB1.out.trans (HB2.out.mono HB1.out.size)⟩
    · have hp : padN width s.length = width - (s.length : Int) := by unfold padN; rw [if_neg ha, if_neg hb]
      have hpl := padL_len (width - (s.length : Int))
      have hc : ¬ (9223372036854775807 < (padL (width - (s.length : Int))).length + s.length) := by omega
      have HP := Lib.hid hp
      clear hp hpl
      go_enter Tryz.func22, Tryz.ntmps22
      go_wp2_with (first
        | (go_at_call 37; refine (HF.out _ HT.out).mono ?_; rintro e w1 ⟨rfl, hb1⟩; have HB1 := Lib.hid hb1; clear hb1)
        | (go_at_call 23; refine (noughts_any _ (by omega) (by omega) _).mono ?_; rintro e w2 ⟨rfl, hb2⟩; have HB2 := Lib.hid hb2; clear hb2))
      go_ret
      exact ⟨by rw [HR.out, HP.out]; rfl, HB1.out.trans (HB2.out.mono HB1.out.size)⟩
end Go.Proofs.YtkbamfiokhmpjaaGreatDoor

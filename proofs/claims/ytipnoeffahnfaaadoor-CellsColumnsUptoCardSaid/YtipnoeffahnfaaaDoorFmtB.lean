/- Contracts of Go's library over this translation: internal/strconv.formatBits at base 8 and 16. Condition: the table of math/bits reads as its initialiser lays it. -/
import Derived.Test.YtipnoeffahnfaaaDoorFmtA
import Derived.Laws.BitsLemmas
import Derived.Laws.IdiomStrings
namespace Go.Proofs.YtipnoeffahnfaaaDoor
set_option linter.unusedVariables false
set_option linter.unusedSimpArgs false
set_option maxRecDepth 8192
open Go.RowKit

/-- The constant 'digits' of internal/strconv. -/
def digs36 : ByteArray := ⟨#[48, 49, 50, 51, 52, 53, 54, 55, 56, 57, 97, 98, 99, 100, 101, 102, 103, 104, 105, 106, 107, 108, 109, 110, 111, 112, 113, 114, 115, 116, 117, 118, 119, 120, 121, 122]⟩
theorem digs36_fin : ∀ x : Fin 36, digs36.data.toList.getD x.val 0 = dch x.val := by decide +kernel
theorem digs36_at (x : Nat) (h : x < digs36.size) : digs36[x] = dch x := by
  have h' : x < 36 := h
  have := digs36_fin ⟨x, h'⟩
  simp only at this
  rw [← this]
  show digs36.data[x] = _
  rw [List.getD_eq_getElem?_getD, Array.getElem?_toList, Array.getElem?_eq_getElem]
  rfl

/-- What the stores of formatBits keep: from place q + 1 on the row holds the last digits of u; x is what is left of it. -/
structure FB (b m u x q : Nat) (arr : Array Value) : Prop where
  size : arr.size = 65
  lt : x < b ^ (q + 1 - m)
  le : m ≤ q
  top : q ≤ 64
  digs : ∃ t : List UInt8, t.length = 64 - q ∧ bdig b u = bdig b x ++ t ∧ ∀ i (h : i < t.length), arr[q + 1 + i]? = some (.int .u8 (t[i].toNat : Int))
theorem FB.start {b m u : Nat} {arr : Array Value} (hs : arr.size = 65) (hm : m ≤ 64) (h : u < b ^ (65 - m)) : FB b m u u 64 arr :=
  ⟨hs, h, hm, Nat.le_refl _, [], rfl, by simp, fun i h => absurd h (by simp)⟩
theorem FB.pos {b m u x q : Nat} {arr : Array Value} (h : FB b m u x q arr) (hx : b ≤ x) : m < q := by
  have := h.le
  rcases Nat.lt_or_ge m q with hh | hh
  · exact hh
  · have : q + 1 - m = 1 := by omega
    have hl := h.lt
    rw [this, Nat.pow_one] at hl; omega
theorem FB.step {b m u x q : Nat} {arr : Array Value} (h : FB b m u x (q + 1) arr) (hb : 2 ≤ b) (hm : m ≤ q) (hx : b ≤ x) :
    FB b m u (x / b) q (arr.setIfInBounds (q + 1) (.int .u8 ((dch (x % b)).toNat : Int))) := by
  obtain ⟨hs, hl, hle, ht, t, tl, te, tc⟩ := h
  refine ⟨by simpa using hs, ?_, hm, by omega, dch (x % b) :: t, by simp [tl]; omega, ?_, fun i hi => ?_⟩
  · rw [show q + 1 + 1 - m = (q + 1 - m) + 1 by omega, Nat.pow_succ] at hl
    exact Nat.div_lt_of_lt_mul (by rw [Nat.mul_comm]; exact hl)
  · rw [te, bdig_big hb hx]; simp
  · cases i with
    | zero => simp [Array.getElem?_setIfInBounds, hs]; omega
    | succ i =>
      have hi' : i < t.length := by simpa using hi
      rw [Array.getElem?_setIfInBounds, if_neg (by omega), show q + 1 + (i + 1) = q + 1 + 1 + i by omega]
      simpa using tc i hi'
theorem FB.last {b m u x q : Nat} {arr : Array Value} (h : FB b m u x q arr) (hx : x < b) :
    (bdig b u).length = 65 - q ∧ ∀ i (hi : i < (bdig b u).length), (arr.setIfInBounds q (.int .u8 ((dch x).toNat : Int)))[q + i]? = some (.int .u8 ((bdig b u)[i].toNat : Int)) := by
  obtain ⟨hs, hl, hle, ht, t, tl, te, tc⟩ := h
  have e : bdig b u = dch x :: t := by rw [te, bdig_small hx]; rfl
  rw [e]
  refine ⟨by simp [tl]; omega, fun i hi => ?_⟩
  cases i with
  | zero => simp [Array.getElem?_setIfInBounds, hs]; omega
  | succ i =>
    have hi' : i < t.length := by simpa using hi
    rw [Array.getElem?_setIfInBounds, if_neg (by omega), show q + (i + 1) = q + 1 + i by omega]
    simpa using tc i hi'
theorem pow2_8 (w : World) : Calls Tryd.prog 54 #[.int .i64 8] w fun e w' => e = .returned (.bool true) ∧ w' = w := by
  have ep : (bits BinOp.and IntKind.i64 8 7 == 0) = true := by decide +kernel
  go_enter Tryd.func54, Tryd.ntmps54
  go_wp2
  go_ret
  exact ⟨rfl, rfl⟩
theorem and_8 (x : Nat) (hx : x < 18446744073709551616) : bits .and .u64 (x : Int) 7 = ((x % 8 : Nat) : Int) := by
  have := bits_mask .u64 64 (by decide) (fun n h0 h1 => by rw [IntKind.wrap_u64]; omega) 3 (by decide) x (by omega) (by omega)
  simpa using this
theorem u64_of_FB_8 {u x q : Nat} {arr : Array Value} (h : FB 8 43 u x q arr) : x < 18446744073709551616 ∨ 8 ^ (q + 1 - 43) > 18446744073709551616 := by
  rcases Nat.lt_or_ge x 18446744073709551616 with hh | hh
  · exact .inl hh
  · exact .inr (Nat.lt_of_le_of_lt hh h.lt)

set_option maxHeartbeats 1000000 in
/-- internal/strconv.formatBits at base 8. -/
theorem formatBits_8 (u : Nat) (hu : u < 18446744073709551616) (w : World) (ht : Lib.TabIs Tryd.prog w "math/bits.deBruijn64tab" .u8 deb64) :
    Calls Tryd.prog 42 #[.slice none 0 0, .int .u64 u, .int .i64 8, .bool false, .bool false] w fun e w' => e = .returned (.tuple #[.slice none 0 0, .string ⟨(bdig 8 u).toArray⟩]) ∧ Below w.heap.size w w' := by
  have hal : Tryd.prog.arrayLen 90 = 65 := by simp [Program.arrayLen, Tryd.underlying90]
  go_enter Tryd.func42, Tryd.ntmps42
  go_wp2_with (first | (go_at_call 54; refine (pow2_8 _).mono ?_; rintro e w' ⟨rfl, rfl⟩) | (go_at_call 55; refine (tz_8 _ (Lib.tabIs_alloc ht _)).mono ?_; rintro e w' ⟨rfl, rfl⟩))
  go_loopw [1, 13] (fun v i wr => ∃ (x q : Nat) (arr : Array Value), v = .int .u64 x ∧ i = .int .i64 ((q + 1 : Nat) : Int) ∧ wr = w.alloc (.cells arr 90) ∧ Hid (x < 18446744073709551616 ∧ FB 8 43 u x q arr)) (fun v _ _ => (intOf v).toNat)
  case atStart => exact ⟨u, 64, _, rfl, rfl, rfl, ⟨hu, FB.start (by decide +kernel) (by decide) (Nat.lt_of_lt_of_le hu (by decide +kernel))⟩⟩
  case round =>
    obtain ⟨x, q, arr, rfl, rfl, rfl, HF⟩ := hrel
    have hq : q ≤ 64 := HF.out.2.top
    obtain ⟨c, hc⟩ : ∃ c, arr[q]? = some c := ⟨arr[q]'(by rw [HF.out.2.size]; omega), by rw [Array.getElem?_eq_getElem]⟩
    by_cases hx : x < 8
    · have e1 : decide ((8 : Int) ≤ (x : Int)) = false := by simp; omega
      have hx36 : x < digs36.size := by have : digs36.size = 36 := rfl; omega
      have hL := HF.out.2.last hx
      have hsl : ∀ W, (Instr.sliceAt 90 (.pointer (some ⟨w.heap.size, 0, none⟩)) (some (.int .i64 (q : Int))) none none).run Tryd.prog W = .ok (.slice (some ⟨w.heap.size, q, none⟩) (65 - q) (65 - q)) W := fun W => by
        rw [run_sliceAt_array_l W 90 ⟨w.heap.size, 0, none⟩ (by simp [Program.arrayLen, Program.elem, Tryd.underlying90]) .i64 (q : Int) (by omega) (by rw [hal]; omega)]
        go_simp
        omega
      have hcv : ∀ cv : Value, cv = .int .u8 ((dch x).toNat : Int) → (convert 24 9 (.slice (some ⟨w.heap.size, q, none⟩) (65 - q) (65 - q))).run Tryd.prog (w.alloc (.cells (arr.setIfInBounds q cv) 90)) = .ok (.string ⟨(bdig 8 u).toArray⟩) (w.alloc (.cells (arr.setIfInBounds q cv) 90)) := fun cv e => by
        subst e
        have h := run_convert_bytes_back (P := Tryd.prog) (w.alloc (.cells (arr.setIfInBounds q (.int .u8 ((dch x).toNat : Int))) 90)) 24 9 5 ⟨w.heap.size, q, none⟩ (65 - q) (bdig 8 u) Tryd.underlying24 Tryd.underlying5 Tryd.underlying9 (fun j hj => by
          rw [Lib.add_plain, World.cell?_alloc_new]
          exact hL.2 j hj)
        rw [hL.1] at h
        exact h
      have HL := Lib.hid hcv
      clear hL hcv
      go_wp2
      rw [HL.out]
      rotate_left
      · exact congrArg (fun b : UInt8 => Value.int .u8 (b.toNat : Int)) (digs36_at x hx36)
      go_wp2
      go_ret2
      exact ⟨rfl, (Below.refl _ _).alloc (Nat.le_refl _) _⟩
    · have e1 : decide ((8 : Int) ≤ (x : Int)) = true := by simp; omega
      have e2 := and_8 x HF.out.1
      have hq1 := HF.out.2.pos (by omega)
      have hx36 : x % 8 < digs36.size := by have : digs36.size = 36 := rfl; omega
      obtain ⟨q, rfl⟩ : ∃ p, q = p + 1 := ⟨q - 1, by omega⟩
      have HS := Lib.hid (HF.out.2.step (by decide) (by omega) (Nat.le_of_not_lt hx))
      rw [← digs36_at _ hx36] at HS
      go_wp2
      exact ⟨⟨x / 8, q, _, congrArg (Value.int .u64) (by omega), congrArg (Value.int .i64) (by omega), rfl, ⟨by have := HF.out.1; omega, HS.out⟩⟩, by simp [intOf]; omega⟩
theorem pow2_16 (w : World) : Calls Tryd.prog 54 #[.int .i64 16] w fun e w' => e = .returned (.bool true) ∧ w' = w := by
  have ep : (bits BinOp.and IntKind.i64 16 15 == 0) = true := by decide +kernel
  go_enter Tryd.func54, Tryd.ntmps54
  go_wp2
  go_ret
  exact ⟨rfl, rfl⟩
theorem and_16 (x : Nat) (hx : x < 18446744073709551616) : bits .and .u64 (x : Int) 15 = ((x % 16 : Nat) : Int) := by
  have := bits_mask .u64 64 (by decide) (fun n h0 h1 => by rw [IntKind.wrap_u64]; omega) 4 (by decide) x (by omega) (by omega)
  simpa using this
theorem u64_of_FB_16 {u x q : Nat} {arr : Array Value} (h : FB 16 48 u x q arr) : x < 18446744073709551616 ∨ 16 ^ (q + 1 - 48) > 18446744073709551616 := by
  rcases Nat.lt_or_ge x 18446744073709551616 with hh | hh
  · exact .inl hh
  · exact .inr (Nat.lt_of_le_of_lt hh h.lt)

set_option maxHeartbeats 1000000 in
/-- internal/strconv.formatBits at base 16. -/
theorem formatBits_16 (u : Nat) (hu : u < 18446744073709551616) (w : World) (ht : Lib.TabIs Tryd.prog w "math/bits.deBruijn64tab" .u8 deb64) :
    Calls Tryd.prog 42 #[.slice none 0 0, .int .u64 u, .int .i64 16, .bool false, .bool false] w fun e w' => e = .returned (.tuple #[.slice none 0 0, .string ⟨(bdig 16 u).toArray⟩]) ∧ Below w.heap.size w w' := by
  have hal : Tryd.prog.arrayLen 90 = 65 := by simp [Program.arrayLen, Tryd.underlying90]
  go_enter Tryd.func42, Tryd.ntmps42
  go_wp2_with (first | (go_at_call 54; refine (pow2_16 _).mono ?_; rintro e w' ⟨rfl, rfl⟩) | (go_at_call 55; refine (tz_16 _ (Lib.tabIs_alloc ht _)).mono ?_; rintro e w' ⟨rfl, rfl⟩))
  go_loopw [1, 13] (fun v i wr => ∃ (x q : Nat) (arr : Array Value), v = .int .u64 x ∧ i = .int .i64 ((q + 1 : Nat) : Int) ∧ wr = w.alloc (.cells arr 90) ∧ Hid (x < 18446744073709551616 ∧ FB 16 48 u x q arr)) (fun v _ _ => (intOf v).toNat)
  case atStart => exact ⟨u, 64, _, rfl, rfl, rfl, ⟨hu, FB.start (by decide +kernel) (by decide) (Nat.lt_of_lt_of_le hu (by decide +kernel))⟩⟩
  case round =>
    obtain ⟨x, q, arr, rfl, rfl, rfl, HF⟩ := hrel
    have hq : q ≤ 64 := HF.out.2.top
    obtain ⟨c, hc⟩ : ∃ c, arr[q]? = some c := ⟨arr[q]'(by rw [HF.out.2.size]; omega), by rw [Array.getElem?_eq_getElem]⟩
    by_cases hx : x < 16
    · have e1 : decide ((16 : Int) ≤ (x : Int)) = false := by simp; omega
      have hx36 : x < digs36.size := by have : digs36.size = 36 := rfl; omega
      have hL := HF.out.2.last hx
      have hsl : ∀ W, (Instr.sliceAt 90 (.pointer (some ⟨w.heap.size, 0, none⟩)) (some (.int .i64 (q : Int))) none none).run Tryd.prog W = .ok (.slice (some ⟨w.heap.size, q, none⟩) (65 - q) (65 - q)) W := fun W => by
        rw [run_sliceAt_array_l W 90 ⟨w.heap.size, 0, none⟩ (by simp [Program.arrayLen, Program.elem, Tryd.underlying90]) .i64 (q : Int) (by omega) (by rw [hal]; omega)]
        go_simp
        omega
      have hcv : ∀ cv : Value, cv = .int .u8 ((dch x).toNat : Int) → (convert 24 9 (.slice (some ⟨w.heap.size, q, none⟩) (65 - q) (65 - q))).run Tryd.prog (w.alloc (.cells (arr.setIfInBounds q cv) 90)) = .ok (.string ⟨(bdig 16 u).toArray⟩) (w.alloc (.cells (arr.setIfInBounds q cv) 90)) := fun cv e => by
        subst e
        have h := run_convert_bytes_back (P := Tryd.prog) (w.alloc (.cells (arr.setIfInBounds q (.int .u8 ((dch x).toNat : Int))) 90)) 24 9 5 ⟨w.heap.size, q, none⟩ (65 - q) (bdig 16 u) Tryd.underlying24 Tryd.underlying5 Tryd.underlying9 (fun j hj => by
          rw [Lib.add_plain, World.cell?_alloc_new]
          exact hL.2 j hj)
        rw [hL.1] at h
        exact h
      have HL := Lib.hid hcv
      clear hL hcv
      go_wp2
      rw [HL.out]
      rotate_left
      · exact congrArg (fun b : UInt8 => Value.int .u8 (b.toNat : Int)) (digs36_at x hx36)
      go_wp2
      go_ret2
      exact ⟨rfl, (Below.refl _ _).alloc (Nat.le_refl _) _⟩
    · have e1 : decide ((16 : Int) ≤ (x : Int)) = true := by simp; omega
      have e2 := and_16 x HF.out.1
      have hq1 := HF.out.2.pos (by omega)
      have hx36 : x % 16 < digs36.size := by have : digs36.size = 36 := rfl; omega
      obtain ⟨q, rfl⟩ : ∃ p, q = p + 1 := ⟨q - 1, by omega⟩
      have HS := Lib.hid (HF.out.2.step (by decide) (by omega) (Nat.le_of_not_lt hx))
      rw [← digs36_at _ hx36] at HS
      go_wp2
      exact ⟨⟨x / 16, q, _, congrArg (Value.int .u64) (by omega), congrArg (Value.int .i64) (by omega), rfl, ⟨by have := HF.out.1; omega, HS.out⟩⟩, by simp [intOf]; omega⟩
end Go.Proofs.YtipnoeffahnfaaaDoor

/- Contracts of Go's library over this translation: math/bits.TrailingZeros at 8 and 16; internal/strconv.isPowerOfTwo at 8 and 16. Condition: the table of math/bits reads as its initialiser lays it. -/
import Derived.Test.YtipnoeffahnfaaaDoorProg
import Derived.Test.YtipnoeffahnfaaaDoorKit
namespace Go.Proofs.YtipnoeffahnfaaaDoor
set_option linter.unusedVariables false
set_option linter.unusedSimpArgs false
open Go.RowKit

/-- The table of math/bits.TrailingZeros64. -/
def deb64 : List Int := [0, 1, 56, 2, 57, 49, 28, 3, 61, 58, 42, 50, 38, 29, 17, 4, 62, 47, 59, 36, 45, 43, 51, 22, 53, 39, 33, 30, 24, 18, 12, 5, 63, 55, 48, 27, 60, 41, 37, 16, 46, 35, 44, 21, 52, 32, 23, 11, 54, 26, 40, 15, 34, 20, 31, 10, 25, 14, 19, 9, 13, 8, 7, 6]
theorem gDeb64 : Tryd.prog.globalNamed "math/bits.deBruijn64tab" = some 3 := by kernel_rfl

theorem ix_8 : IntKind.u64.wrap (bits BinOp.and IntKind.u64 8 (IntKind.u64.wrap (-8)) * 285870213051353865) / 288230376151711744 = 7 := by decide +kernel
theorem ix_16 : IntKind.u64.wrap (bits BinOp.and IntKind.u64 16 (IntKind.u64.wrap (-16)) * 285870213051353865) / 288230376151711744 = 15 := by decide +kernel
set_option maxHeartbeats 1000000 in
theorem tz_8 (w : World) (ht : Lib.TabIs Tryd.prog w "math/bits.deBruijn64tab" .u8 deb64) :
    Calls Tryd.prog 55 #[.int .u64 8] w fun e w' => e = .returned (.int .i64 3) ∧ w' = w := by
  have c8 : w.cell? ⟨3, 7, none⟩ = some (.int .u8 3) := ht.cell gDeb64 7 (by decide)
  have e := ix_8
  go_enter Tryd.func55, Tryd.ntmps55
  go_wp2
  go_ret
  exact ⟨rfl, rfl⟩

theorem tz_16 (w : World) (ht : Lib.TabIs Tryd.prog w "math/bits.deBruijn64tab" .u8 deb64) :
    Calls Tryd.prog 55 #[.int .u64 16] w fun e w' => e = .returned (.int .i64 4) ∧ w' = w := by
  have c8 : w.cell? ⟨3, 15, none⟩ = some (.int .u8 4) := ht.cell gDeb64 15 (by decide)
  have e := ix_16
  go_enter Tryd.func55, Tryd.ntmps55
  go_wp2
  go_ret
  exact ⟨rfl, rfl⟩

/-- A digit's sign. -/
def dch (d : Nat) : UInt8 := UInt8.ofNat (if d < 10 then 48 + d else 87 + d)
/-- The digits of u in a base, the first ahead. -/
def bdig (b u : Nat) : List UInt8 :=
  if _h : u < b ∨ b < 2 then [dch u] else bdig b (u / b) ++ [dch (u % b)]
termination_by u
decreasing_by exact Nat.div_lt_self (by omega) (by omega)
theorem bdig_small {b u : Nat} (h : u < b) : bdig b u = [dch u] := by rw [bdig, dif_pos (.inl h)]
theorem bdig_big {b u : Nat} (hb : 2 ≤ b) (h : b ≤ u) : bdig b u = bdig b (u / b) ++ [dch (u % b)] := by rw [bdig, dif_neg (by omega)]
end Go.Proofs.YtipnoeffahnfaaaDoor

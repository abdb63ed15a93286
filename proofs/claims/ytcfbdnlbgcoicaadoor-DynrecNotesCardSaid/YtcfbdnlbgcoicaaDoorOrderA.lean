/- Contracts over this translation: order.place, Put: the bytes of a number. -/
import Derived.Test.YtcfbdnlbgcoicaaDoorProg
import Derived.Test.YtcfbdnlbgcoicaaDoorKit
import Derived.Deep.OwnRows
import Derived.Laws.IdiomStrings
import Derived.Outline
import Derived.Deep.RegionHeld3
namespace Go.Proofs.YtcfbdnlbgcoicaaDoor
set_option linter.unusedVariables false
set_option linter.unusedSimpArgs false
open Go.RowKit

/-- Where the k-th byte of a number stands. -/
def plc (big : Bool) (size k : Nat) : Nat := if big then size - 1 - k else k
/-- The k-th byte of a number. -/
def byt (n k : Nat) : Nat := n / 256 ^ k % 256
theorem byt_lt (n k : Nat) : byt n k < 256 := Nat.mod_lt _ (by decide)
theorem plc_lt (big : Bool) {size k : Nat} (h : k < size) : plc big size k < size := by unfold plc; split <;> omega
theorem plc_plc (big : Bool) {size k : Nat} (h : k < size) : plc big size (plc big size k) = k := by unfold plc; cases big <;> simp <;> omega
/-- The bytes of a number. -/
def putL (big : Bool) (n size : Nat) : List UInt8 := (List.range size).map fun p => UInt8.ofNat (byt n (plc big size p))
theorem putL_length (big : Bool) (n size : Nat) : (putL big n size).length = size := by simp [putL]

theorem byt_shift (n k : Nat) : IntKind.u8.wrap ((n : Int) / 2 ^ (8 * (k : Int)).toNat) = ((byt n k : Nat) : Int) := by
  have e : (2 : Int) ^ (8 * (k : Int)).toNat = ((256 ^ k : Nat) : Int) := by
    rw [show (8 * (k : Int)).toNat = 8 * k by omega, show (256 : Nat) = 2 ^ 8 from rfl, ← Nat.pow_mul]
    simp
  rw [e, IntKind.wrap_u8]
  unfold byt
  omega
theorem place_any (big : Bool) (k size : Nat) (h : k < size) (hs : size ≤ 1000000) (w : World) :
    Calls Tryd.prog 54 #[.agg #[.bool big], .int .i64 k, .int .i64 size] w fun e w' => e = .returned (.int .i64 ((plc big size k : Nat) : Int)) ∧ w' = w.alloc (.cells #[.bool big] 25) := by
  cases big
  · go_enter Tryd.func54, Tryd.ntmps54
    go_wp2
    go_ret
    exact ⟨rfl, rfl⟩
  · have e : ((plc true size k : Nat) : Int) = (size : Int) - 1 - k := by unfold plc; simp; omega
    rw [e]
    clear e
    go_enter Tryd.func54, Tryd.ntmps54
    go_wp2
    go_ret
    exact ⟨rfl, rfl⟩

theorem Tryd.infoU8 : (Tryd.prog.info? 5).map (fun i => (i.zero, i.size, i.bytes)) = some (some (.int .u8 0), 1, 1) := by kernel_rfl
set_option maxHeartbeats 1000000 in
theorem put_any (big : Bool) (n : Nat) (hn : n < 18446744073709551616) (size : Nat) (h1 : 1 ≤ size) (h8 : size ≤ 8) (w : World) :
    Calls Tryd.prog 49 #[.agg #[.bool big], .int .u64 n, .int .i64 size] w fun e w' => e = .returned (.string ⟨(putL big n size).toArray⟩) ∧ Below w.heap.size w w' := by
  have hmk : ∀ W, (Instr.makeSlice 44 (.int .i64 (size : Int)) (.int .i64 (size : Int))).run Tryd.prog W = _ := fun W => run_make_row' 44 5 (.int .u8 0) 1 Tryd.underlying44 Tryd.infoU8 rfl .i64 .i64 size (by omega) (by omega) W
  go_enter Tryd.func49, Tryd.ntmps49
  go_wp2
  go_loopw [19] (fun i wr => ∃ k : Nat, k ≤ size ∧ i = .int .i64 k ∧ Hid (wr.rowIs (w.heap.size + 1) 5 size (fun p => .int .u8 ((if plc big size p < k then byt n (plc big size p) else 0 : Nat) : Int))) ∧ Hid (wr.cell? ⟨w.heap.size, 0, none⟩ = some (.bool big)) ∧ Hid (Below w.heap.size w wr) ∧ w.heap.size + 1 < wr.heap.size) (fun i _ => size - (intOf i).toNat)
  case atStart =>
    refine ⟨0, Nat.zero_le _, rfl, ?_, ?_, ?_, ?_⟩
    · have h := World.rowIs_made (w.alloc (.cells #[.bool big] 25)) (.int .u8 0) size 5
      rw [show (w.alloc (.cells #[.bool big] 25)).heap.size = w.heap.size + 1 by simp] at h
      exact Lib.hid (h.congr fun p hp => by rw [if_neg (Nat.not_lt_zero _)]; rfl)
    · exact Lib.hid (by rw [World.cell?_alloc_past _ _ _ (by simp), World.cell?_alloc_new]; rfl)
    · exact Lib.hid (((Below.refl _ _).alloc (Nat.le_refl _) _).alloc (by simp) _)
    · simp
  case round =>
    obtain ⟨k, hk, rfl, HR, HC, HB, hsz⟩ := hrel
    by_cases hlt : k < size
    · have hp := plc_lt big hlt
      have hcell := HR.out.cell hp
      have hfro := HR.out.frozen (plc big size k)
      have hbox := HC.out
      have hw8 : IntKind.i64.wrap (8 * (k : Int)) = 8 * (k : Int) := by rw [IntKind.wrap_i64]; omega
      have hk8 : 0 ≤ 8 * (k : Int) := by omega
      have hsz0 : w.heap.size < wr.heap.size := by omega
      have hp0 : 0 ≤ ((plc big size k : Nat) : Int) := by omega
      have hp1 : ((plc big size k : Nat) : Int) < (size : Int) := by omega
      have hcv : IntKind.u8.wrap ((n : Int) / 2 ^ (8 * (k : Int)).toNat) = ((byt n k : Nat) : Int) := byt_shift n k
      go_wp2
      go_region_held3 (fun w' => w'.cell? ⟨w.heap.size, 0, none⟩ = some (.bool big)) (first | exact hbox | (rw [World.cell?_alloc_past _ _ _ hsz0]; exact hbox) | (rw [World.cell?_drew, World.cell?_alloc_past _ _ _ hsz0]; exact hbox) | (rw [World.cell?_drew, World.cell?_alloc_past _ _ _ (by simpa using hsz0), World.cell?_setCell_other _ _ _ _ (by simp)]; exact hbox))
        (first | (go_at_call 54; refine (place_any big k size hlt (by omega) _).mono ?_; rintro e w' ⟨rfl, rfl⟩))
      go_wp2
      go_roundw
      case rel =>
        refine ⟨k + 1, by omega, by go_num, ?_, ?_, ?_, ?_⟩
        · refine Lib.hid ((((HR.out.set (plc big size k) (.int .u8 ((byt n k : Nat) : Int))).alloc _).drew).congr fun p hpp => ?_)
          by_cases e : p = plc big size k
          · subst e
            rw [if_pos rfl, plc_plc big hlt, if_pos (by omega)]
          · rw [if_neg e]
            have hne : plc big size p ≠ k := fun h => e (by rw [← h, plc_plc big hpp])
            by_cases h2 : plc big size p < k
            · rw [if_pos h2, if_pos (by omega)]
            · rw [if_neg h2, if_neg (by omega)]
        · exact Lib.hid (by rw [World.cell?_drew, World.cell?_alloc_past _ _ _ (by simpa using hsz0), World.cell?_setCell_other _ _ _ _ (by simp)]; exact hbox)
        · exact Lib.hid (((HB.out.setCell (p := ⟨w.heap.size + 1, plc big size k, none⟩) (by simp) _).alloc (by simp; omega) _).drew)
        · simp; omega
      case measure => simp [intOf]; omega
    · obtain rfl : k = size := by omega
      have hconv : (convert 44 9 (.slice (some ⟨w.heap.size + 1, 0, none⟩) k k)).run Tryd.prog wr = .ok (.string ⟨(putL big n k).toArray⟩) wr := by
        have h := run_convert_bytes_back (P := Tryd.prog) wr 44 9 5 ⟨w.heap.size + 1, 0, none⟩ k (putL big n k) Tryd.underlying44 Tryd.underlying5 Tryd.underlying9 (fun j hj => by
          have hj' : j < k := by rw [putL_length] at hj; exact hj
          rw [Lib.add_plain, Nat.zero_add, HR.out.cell hj', if_pos (plc_lt big hj')]
          simp only [putL, List.getElem_map, List.getElem_range]
          rw [UInt8.toNat_ofNat_of_lt' (byt_lt _ _)])
        rw [putL_length] at h
        exact h
      go_wp2
      go_ret
      exact ⟨rfl, HB.out⟩
end Go.Proofs.YtcfbdnlbgcoicaaDoor

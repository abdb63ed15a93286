/- Contracts over this translation: order.Read, Reader.Bytes, Next, At, Err. -/
import Derived.Test.YtcfbdnlbgcoicaaDoorOrderB
import Derived.Test.YtcfbdnlbgcoicaaDoorKit
import Derived.Deep.QuietTactic
import Derived.Deep.RegionHeld3
import Derived.BigQuiet
namespace Go.Proofs.YtcfbdnlbgcoicaaDoor
set_option linter.unusedVariables false
set_option linter.unusedSimpArgs false
open Go.RowKit

/-- A reader: its order, its text, where it goes on, whether something was not there. -/
def RdrAt (w : World) (b : Nat) (big : Bool) (l : List UInt8) (at_ : Nat) (bad : Bool) : Prop :=
  w.heap[b]? = some (.cells #[.bool big, .string ⟨l.toArray⟩, .int .u64 (at_ : Int), .bool bad] 94 (0, 0))
theorem RdrAt.cell {w : World} {b : Nat} {big : Bool} {l : List UInt8} {at_ : Nat} {bad : Bool} (h : RdrAt w b big l at_ bad) (j : Nat) : w.cell? ⟨b, j, none⟩ = (#[.bool big, .string ⟨l.toArray⟩, .int .u64 (at_ : Int), .bool bad] : Array Value)[j]? := by
  unfold RdrAt at h
  simp [World.cell?, h]
theorem RdrAt.frozen {w : World} {b : Nat} {big : Bool} {l : List UInt8} {at_ : Nat} {bad : Bool} (h : RdrAt w b big l at_ bad) (j : Nat) : w.frozen? ⟨b, j, none⟩ = false := by
  unfold RdrAt at h
  simp [World.frozen?, h]
theorem RdrAt.lt {w : World} {b : Nat} {big : Bool} {l : List UInt8} {at_ : Nat} {bad : Bool} (h : RdrAt w b big l at_ bad) : b < w.heap.size := by
  rcases Nat.lt_or_ge b w.heap.size with hh | hh
  · exact hh
  · unfold RdrAt at h; rw [Array.getElem?_eq_none hh] at h; cases h
theorem RdrAt.below {w w' : World} {b : Nat} {big : Bool} {l : List UInt8} {at_ : Nat} {bad : Bool} (h : RdrAt w b big l at_ bad) (hb : Below w.heap.size w w') : RdrAt w' b big l at_ bad := by
  unfold RdrAt; rw [hb.block b h.lt]; exact h
theorem RdrAt.setAt {w : World} {b : Nat} {big : Bool} {l : List UInt8} {at_ : Nat} {bad : Bool} (h : RdrAt w b big l at_ bad) (n : Nat) : RdrAt (w.setCell ⟨b, 2, none⟩ (.int .u64 (n : Int))) b big l n bad := by
  unfold RdrAt at *
  simp [World.setCell, Array.getElem?_modify, h]
theorem RdrAt.setBad {w : World} {b : Nat} {big : Bool} {l : List UInt8} {at_ : Nat} {bad : Bool} (h : RdrAt w b big l at_ bad) (c : Bool) : RdrAt (w.setCell ⟨b, 3, none⟩ (.bool c)) b big l at_ c := by
  unfold RdrAt at *
  simp [World.setCell, Array.getElem?_modify, h]

theorem grownBy_setCell (w : World) (p : Addr) (v : Value) : w.grownBy (w.setCell p v) (some p.block) :=
  ⟨rfl, rfl, rfl, by simp [World.setCell], fun k hk hne => Below.heap_setCell w p v k (fun e => hne (by rw [e]))⟩
theorem grownBy_drew {w w' : World} {row : Option Nat} (h : w.grownBy w' row) : w.grownBy w'.drew row := ⟨h.os, h.tape, h.output, h.size, h.block⟩
theorem grownBy_undrew {w w' : World} {row : Option Nat} (h : w.drew.grownBy w' row) : w.grownBy w' row := ⟨h.os, h.tape, h.output, h.size, h.block⟩
theorem grownBy_trans {w w1 w2 : World} {row : Option Nat} (h : w.grownBy w1 row) (h2 : w1.grownBy w2 row) : w.grownBy w2 row :=
  ⟨h2.os.trans h.os, h2.tape.trans h.tape, h2.output.trans h.output, Nat.le_trans h.size h2.size, fun k hk hne => (h2.block k (Nat.lt_of_lt_of_le hk h.size) hne).trans (h.block k hk hne)⟩
theorem grownBy_below {w w' : World} (row : Option Nat) (h : Below w.heap.size w w') : w.grownBy w' row := ⟨h.os, h.tape, h.output, h.size, fun k hk _ => h.block k hk⟩
theorem grownBy_refl (w : World) (row : Option Nat) : w.grownBy w row := ⟨rfl, rfl, rfl, Nat.le_refl _, fun _ _ _ => rfl⟩

/-- What Bytes gives, and the reader behind it. -/
def rbL (l : List UInt8) (at_ : Nat) (bad : Bool) (n : Nat) : List UInt8 := if bad = false ∧ at_ + n ≤ l.length then (l.drop at_).take n else []
def rbAt (l : List UInt8) (at_ : Nat) (bad : Bool) (n : Nat) : Nat := if bad = false ∧ at_ + n ≤ l.length then at_ + n else at_
def rbBad (l : List UInt8) (at_ : Nat) (bad : Bool) (n : Nat) : Bool := if bad = false ∧ at_ + n ≤ l.length then false else true

theorem read_any (big : Bool) (l : List UInt8) (at_ : Nat) (w : World) :
    Calls Tryd.prog 25 #[.agg #[.bool big], .string ⟨l.toArray⟩, .int .u64 at_] w fun e w' => e = .returned (.pointer (some ⟨w.heap.size + 1, 0, none⟩)) ∧ w' = (w.alloc (.cells #[.bool big] 25)).alloc (.cells #[.bool big, .string ⟨l.toArray⟩, .int .u64 (at_ : Int), .bool false] 94) := by
  go_enter Tryd.func25, Tryd.ntmps25
  go_wp2
  go_ret
  exact ⟨rfl, rfl⟩

theorem at_any (b : Nat) (big : Bool) (l : List UInt8) (at_ : Nat) (bad : Bool) (w : World) (h : RdrAt w b big l at_ bad) :
    Calls Tryd.prog 26 #[.pointer (some ⟨b, 0, none⟩)] w fun e w' => e = .returned (.int .u64 at_) ∧ w' = w := by
  have c2 := h.cell 2
  simp at c2
  go_enter Tryd.func26, Tryd.ntmps26
  go_wp2
  go_ret
  exact ⟨rfl, rfl⟩
theorem err_any (b : Nat) (big : Bool) (l : List UInt8) (at_ : Nat) (bad : Bool) (w : World) (h : RdrAt w b big l at_ bad) :
    Calls Tryd.prog 29 #[.pointer (some ⟨b, 0, none⟩)] w fun e w' => e = .returned (.int .i64 (if bad then 3 else 0)) ∧ w' = w := by
  have c3 := h.cell 3
  simp at c3
  cases bad <;>
  · go_enter Tryd.func29, Tryd.ntmps29
    go_wp2
    go_ret
    exact ⟨rfl, rfl⟩

set_option maxHeartbeats 1000000 in
theorem bytes_any (b : Nat) (big : Bool) (l : List UInt8) (hl : l.length ≤ 9223372036854775807) (at_ : Nat) (ha : at_ < 18446744073709551616) (bad : Bool) (n : Nat) (hn : n < 18446744073709551616) (w : World) (h : RdrAt w b big l at_ bad) :
    Calls Tryd.prog 28 #[.pointer (some ⟨b, 0, none⟩), .int .u64 n] w fun e w' => e = .returned (.string ⟨(rbL l at_ bad n).toArray⟩) ∧ RdrAt w' b big l (rbAt l at_ bad n) (rbBad l at_ bad n) ∧ w.grownBy w' (some b) := by
  have HR := Lib.hid h
  have c1 := h.cell 1
  have c2 := h.cell 2
  have c3 := h.cell 3
  have f2 := h.frozen 2
  have f3 := h.frozen 3
  simp at c1 c2 c3
  clear h
  cases bad
  · by_cases hok : at_ + n ≤ l.length
    · have e1 : rbL l at_ false n = (l.drop at_).take n := if_pos ⟨rfl, hok⟩
      have e2 : rbAt l at_ false n = at_ + n := if_pos ⟨rfl, hok⟩
      have e3 : rbBad l at_ false n = false := if_pos ⟨rfl, hok⟩
      rw [e1, e2, e3]
      clear e1 e2 e3
      have t1 : decide (l.length < at_) = false := decide_eq_false (by omega)
      have t3 : IntKind.u64.wrap ((at_ : Int) + (n : Int)) = (at_ : Int) + (n : Int) := by rw [IntKind.wrap_u64]; omega
      have t4 : (0 : Int) ≤ (at_ : Int) := by omega
      have t5 : (at_ : Int) ≤ (at_ : Int) + (n : Int) := by omega
      have t6 : (at_ : Int) + (n : Int) ≤ (l.length : Int) := by omega
      have t2 : decide ((l.length : Int) - (at_ : Int) < (n : Int)) = false := decide_eq_false (by omega)
      go_enter Tryd.func28, Tryd.ntmps28
      go_wp2
      go_quiet (fail)
      go_wp2
      go_ret
      refine ⟨?_, ?_, ?_⟩
      · have := ext_list l at_ (at_ + n)
        rw [show at_ + n - at_ = n by omega] at this
        rw [← this]; rfl
      · rw [← Int.natCast_add]
        exact (HR.out.below (Go.below_drewN (Below.refl _ _) nq)).setAt (at_ + n)
      · exact grownBy_trans (grownBy_below _ (Go.below_drewN (Below.refl _ _) nq)) (grownBy_setCell _ _ _)
    · have e1 : rbL l at_ false n = [] := if_neg (fun h => hok h.2)
      have e2 : rbAt l at_ false n = at_ := if_neg (fun h => hok h.2)
      have e3 : rbBad l at_ false n = true := if_neg (fun h => hok h.2)
      rw [e1, e2, e3]
      clear e1 e2 e3
      by_cases hgt : l.length < at_
      · have t1 : decide (l.length < at_) = true := decide_eq_true (by omega)
        go_enter Tryd.func28, Tryd.ntmps28
        go_wp2
        go_ret
        exact ⟨rfl, HR.out.setBad true, grownBy_setCell _ _ _⟩
      · have t1 : decide (l.length < at_) = false := decide_eq_false (by omega)
        have t2 : decide ((l.length : Int) - (at_ : Int) < (n : Int)) = true := decide_eq_true (by omega)
        have t3 : at_ ≤ l.length := by omega
        go_enter Tryd.func28, Tryd.ntmps28
        go_wp2
        go_ret
        exact ⟨rfl, HR.out.setBad true, grownBy_setCell _ _ _⟩
  · have e1 : rbL l at_ true n = [] := if_neg (by simp)
    have e2 : rbAt l at_ true n = at_ := if_neg (by simp)
    have e3 : rbBad l at_ true n = true := if_neg (by simp)
    rw [e1, e2, e3]
    clear e1 e2 e3
    go_enter Tryd.func28, Tryd.ntmps28
    go_wp2
    go_ret
    exact ⟨rfl, HR.out, grownBy_refl _ _⟩

/-- What Next gives. -/
def rnV (big : Bool) (l : List UInt8) (at_ : Nat) (bad : Bool) (n : Nat) : Nat := getL big (rbL l at_ bad n)
theorem rbL_length (l : List UInt8) (at_ : Nat) (bad : Bool) (n : Nat) : (rbL l at_ bad n).length ≤ n := by
  unfold rbL; split
  · rw [List.length_take]; omega
  · simp
set_option maxHeartbeats 1000000 in
theorem next_any (b : Nat) (big : Bool) (l : List UInt8) (hl : l.length ≤ 9223372036854775807) (at_ : Nat) (ha : at_ < 18446744073709551616) (bad : Bool) (n : Nat) (h1 : 1 ≤ n) (h8 : n ≤ 8) (w : World) (h : RdrAt w b big l at_ bad) :
    Calls Tryd.prog 27 #[.pointer (some ⟨b, 0, none⟩), .int .i64 n] w fun e w' => e = .returned (.int .u64 ((rnV big l at_ bad n : Nat) : Int)) ∧ RdrAt w' b big l (rbAt l at_ bad n) (rbBad l at_ bad n) ∧ w.grownBy w' (some b) := by
  have HR := Lib.hid h
  have c0 := h.cell 0
  simp at c0
  have hlt := h.lt
  have HRD := Lib.hid (show RdrAt w.drew b big l at_ bad by unfold RdrAt at *; exact h)
  have hnw : IntKind.u64.wrap (n : Int) = n := by rw [IntKind.wrap_u64]; omega
  clear h
  have hlen := rbL_length l at_ bad n
  go_enter Tryd.func27, Tryd.ntmps27
  go_wp2
  go_region_held3 (fun w' => w'.cell? ⟨b, 0, none⟩ = some (.bool big)) (first | exact c0 | exact cq | exact cp)
    (first
      | (go_at_call 28; refine (bytes_any b big l hl at_ ha bad n (by omega) _ HRD.out).mono ?_; rintro e wq ⟨rfl, hq, hgq⟩; have cq : wq.cell? ⟨b, 0, none⟩ = some (.bool big) := by (have := hq.cell 0; simpa using this))
      | (go_at_call 39; refine (get_any big _ (by omega) _).mono ?_; rintro e wp ⟨rfl, hbp⟩; have cp : wp.cell? ⟨b, 0, none⟩ = some (.bool big) := (hbp.cell hq.lt).trans cq))
  have HQ := Lib.hid hq
  have HG := Lib.hid hgq
  have HP := Lib.hid hbp
  clear hq hgq hbp
  go_wp2
  go_ret
  exact ⟨rfl, HQ.out.below HP.out, grownBy_trans (grownBy_undrew HG.out) (grownBy_below _ HP.out)⟩
end Go.Proofs.YtcfbdnlbgcoicaaDoor

/- Contracts over this translation: order.Fields, class.Record. -/
import Derived.Test.YtcfbdnlbgcoicaaDoorClassA
import Derived.Test.YtcfbdnlbgcoicaaDoorBuilder
import Derived.Test.YtcfbdnlbgcoicaaDoorShelf
import Derived.Test.YtcfbdnlbgcoicaaDoorShelfB
namespace Go.Proofs.YtcfbdnlbgcoicaaDoor
set_option linter.unusedVariables false
set_option linter.unusedSimpArgs false
open Go.RowKit

/-- Numbers of so many bytes each, one behind the other. -/
def fieldsL (big : Bool) : List Nat → List Nat → List UInt8
  | z :: zs, n :: ns => putL big n z ++ fieldsL big zs ns
  | _, _ => []
def encU (n : Nat) : Value := .int .u64 (n : Int)
theorem fieldsL_take (big : Bool) : ∀ (zs ns : List Nat) (k : Nat) (h1 : k < zs.length) (h2 : k < ns.length), fieldsL big (zs.take (k + 1)) (ns.take (k + 1)) = fieldsL big (zs.take k) (ns.take k) ++ putL big ns[k] zs[k]
  | z :: zs, n :: ns, 0, _, _ => by simp [fieldsL]
  | z :: zs, n :: ns, k + 1, h1, h2 => by
    have := fieldsL_take big zs ns k (by simpa using h1) (by simpa using h2)
    simp only [List.take_succ_cons, fieldsL, this, List.append_assoc, List.getElem_cons_succ]
theorem fieldsL_length (big : Bool) : ∀ (zs ns : List Nat), zs.length = ns.length → (fieldsL big zs ns).length = zs.sum
  | [], [], _ => rfl
  | z :: zs, n :: ns, h => by
    simp only [fieldsL, List.length_append, putL_length, List.sum_cons, fieldsL_length big zs ns (by simpa using h)]
theorem sum_le8 (zs : List Nat) (h : ∀ z ∈ zs, z ≤ 8) : zs.sum ≤ 8 * zs.length := by
  induction zs with
  | nil => simp
  | cons x r ih =>
    have h1 := ih (fun z hz => h z (List.mem_cons_of_mem _ hz))
    have h2 := h x (List.mem_cons_self ..)
    simp only [List.sum_cons, List.length_cons]; omega
theorem fieldsL_le (big : Bool) : ∀ (zs ns : List Nat), (∀ z ∈ zs, z ≤ 8) → (fieldsL big zs ns).length ≤ 8 * zs.length
  | [], _, _ => by simp [fieldsL]
  | z :: zs, [], _ => by simp [fieldsL]
  | z :: zs, n :: ns, h => by
    have h1 := fieldsL_le big zs ns (fun z hz => h z (List.mem_cons_of_mem _ hz))
    have h2 := h z (List.mem_cons_self ..)
    simp only [fieldsL, List.length_append, putL_length, List.length_cons]; omega

set_option maxHeartbeats 2000000 in
theorem fields_any (big : Bool) (zs ns : List Nat) (hz : ∀ z ∈ zs, 1 ≤ z ∧ z ≤ 8) (hns : ∀ n ∈ ns, n < 18446744073709551616) (hl : zs.length = ns.length) (hl2 : ns.length ≤ 100) (a1 a2 : Option Addr) (c1 c2 : Nat) (w : World)
    (hr1 : Rd w a1 (zs.map encI)) (hr2 : Rd w a2 (ns.map encU)) :
    Calls Tryd.prog 36 #[.agg #[.bool big], .slice a1 zs.length c1, .slice a2 ns.length c2] w fun e w' => e = .returned (.string ⟨(fieldsL big zs ns).toArray⟩) ∧ Below w.heap.size w w' := by
  have H1 := Lib.hid hr1
  have H2 := Lib.hid hr2
  have HZ := Lib.hid hz
  have HN := Lib.hid hns
  have HL := Lib.hid hl
  have hmin : min (zs.length : Int) (ns.length : Int) = (ns.length : Int) := by omega
  clear hr1 hr2 hz hns hl
  go_enter Tryd.func36, Tryd.ntmps36
  go_wp2
  go_loopw [14] (fun i wr => ∃ k : Nat, k ≤ ns.length ∧ i = .int .i64 k ∧ Hid (Lib.IsBuilder 66 5 (w.heap.size + 1) (w.heap.size + 1) (Lib.byteCells (fieldsL big (zs.take k) (ns.take k))) wr) ∧ Hid (wr.cell? ⟨w.heap.size, 0, none⟩ = some (.bool big)) ∧ Hid (Below w.heap.size w wr) ∧ w.heap.size + 1 < wr.heap.size) (fun i _ => ns.length - (intOf i).toNat)
  case atStart =>
    refine ⟨0, Nat.zero_le _, rfl, ?_, ?_, ?_, ?_⟩
    · have := Lib.fresh_isBuilder 66 5 (w.alloc (.cells #[.bool big] 25))
      rw [show (w.alloc (.cells #[.bool big] 25)).heap.size = w.heap.size + 1 by simp] at this
      exact Lib.hid (by simpa [fieldsL, Lib.byteCells] using this)
    · exact Lib.hid (by rw [World.cell?_alloc_past _ _ _ (by simp), World.cell?_alloc_new]; rfl)
    · exact Lib.hid (((Below.refl _ _).alloc (Nat.le_refl _) _).alloc (by simp) _)
    · simp
  case round =>
    obtain ⟨k, hk, rfl, HBU, HC, HB, hsz⟩ := hrel
    by_cases hlt : k < ns.length
    · have hlt1 : k < zs.length := by have := HL.out; omega
      obtain ⟨z, hzk⟩ : ∃ z, z = zs[k] := ⟨_, rfl⟩
      obtain ⟨n, hnk⟩ : ∃ n, n = ns[k] := ⟨_, rfl⟩
      have hz1 : 1 ≤ z ∧ z ≤ 8 := by rw [hzk]; exact HZ.out _ (List.getElem_mem hlt1)
      have hn1 : n < 18446744073709551616 := by rw [hnk]; exact HN.out _ (List.getElem_mem hlt)
      obtain ⟨b1, o1, ha1, hcl1⟩ := H1.out.at (by simp; omega)
      obtain ⟨b2, o2, ha2, hcl2⟩ := H2.out.at (by simp; omega)
      have q1 : w.cell? ⟨b1, o1 + k, none⟩ = some (.int .i64 (z : Int)) := hcl1 k _ (by simp [hlt1, encI, ← hzk])
      have q2 : w.cell? ⟨b2, o2 + k, none⟩ = some (.int .u64 (n : Int)) := hcl2 k _ (by simp [hlt, encU, ← hnk])
      have hcell1 : wr.cell? ⟨b1, o1 + k, none⟩ = some (.int .i64 (z : Int)) := by rw [HB.out.cell (cell_lt q1)]; exact q1
      have hcell2 : wr.cell? ⟨b2, o2 + k, none⟩ = some (.int .u64 (n : Int)) := by rw [HB.out.cell (cell_lt q2)]; exact q2
      have hq1 : b1 < w.heap.size + 1 := Nat.lt_succ_of_lt (cell_lt q1)
      have hq2 : b2 < w.heap.size + 1 := Nat.lt_succ_of_lt (cell_lt q2)
      subst ha1 ha2
      have HF := Lib.hid (fieldsL_take big zs ns k hlt1 hlt)
      rw [← hzk, ← hnk] at HF
      have hbox := HC.out
      clear hcl1 hcl2 q1 q2 hzk hnk
      have hlen : (Lib.byteCells (fieldsL big (zs.take k) (ns.take k))).length ≤ 1000 := by
        rw [byteCells_length]
        have := fieldsL_le big (zs.take k) (ns.take k) (fun x hx => (HZ.out x (List.mem_of_mem_take hx)).2)
        rw [List.length_take] at this; have := HL.out; omega
      have hkz : (k : Int) < (zs.length : Int) := by omega
      have hkn : (k : Int) < (ns.length : Int) := by omega
      have hk0 : (0 : Int) ≤ (k : Int) := by omega
      have hltb1 : b1 < wr.heap.size := cell_lt hcell1
      have hltb2 : b2 < wr.heap.size := cell_lt hcell2
      have hsz0 : w.heap.size < wr.heap.size := by omega
      go_wp2
      go_region_held3 (fun w' => w'.cell? ⟨w.heap.size, 0, none⟩ = some (.bool big) ∧ w'.cell? ⟨b1, o1 + k, none⟩ = some (.int .i64 (z : Int)) ∧ w'.cell? ⟨b2, o2 + k, none⟩ = some (.int .u64 (n : Int))) (first | exact ⟨hbox, hcell1, hcell2⟩ | exact sq | exact sp)
        (first
          | (go_at_call 49; refine (put_any big n hn1 z hz1.1 hz1.2 _).mono ?_; rintro e wq ⟨rfl, hbq⟩; have sq := And.intro ((hbq.cell (p := ⟨w.heap.size, 0, none⟩) hsz0).trans hbox) (And.intro ((hbq.cell (p := ⟨b1, o1 + k, none⟩) hltb1).trans hcell1) ((hbq.cell (p := ⟨b2, o2 + k, none⟩) hltb2).trans hcell2)); have HBQ := Lib.hid (below_undrew hbq))
          | (go_at_call 19; refine (Tryd.Builder_WriteString (w.heap.size + 1) (w.heap.size + 1) _ _ _ (isBuilder_below HBU.out HBQ.out) (by have := putL_length big n z; show _ + (putL big n z).length ≤ _; omega) (by have := HBQ.out.size; omega)).mono ?_; rintro e wp ⟨rfl, hbu, hbp⟩; have sp := And.intro ((hbp.cell (p := ⟨w.heap.size, 0, none⟩) (Nat.lt_succ_self _)).trans sq.1) (And.intro ((hbp.cell (p := ⟨b1, o1 + k, none⟩) hq1).trans sq.2.1) ((hbp.cell (p := ⟨b2, o2 + k, none⟩) hq2).trans sq.2.2))))
      have HBU2 := Lib.hid hbu
      have HBP := Lib.hid hbp
      clear hbu hbp
      go_wp2
      go_roundw
      case rel =>
        refine ⟨k + 1, by omega, by go_num, ?_, ?_, ?_, ?_⟩
        · refine Lib.hid (.inr ?_)
          rw [HF.out, byteCells_append]
          exact HBU2.out
        · exact Lib.hid sp.1
        · exact Lib.hid (HB.out.trans ((HBQ.out.mono (by show w.heap.size ≤ wr.heap.size; omega)).trans (HBP.out.mono (by omega))))
        · have h1 : wr.heap.size ≤ wq.heap.size := HBQ.out.size; have h2 := HBP.out.size; omega
      case measure => simp [intOf]; omega
    · obtain rfl : k = ns.length := by omega
      have ht1 : zs.take ns.length = zs := List.take_of_length_le (by have := HL.out; omega)
      have ht2 : ns.take ns.length = ns := List.take_length
      rw [ht1, ht2] at HBU
      clear ht1 ht2
      go_wp2_with (first | (go_at_call 22; refine (Tryd.Builder_String_any (w.heap.size + 1) (w.heap.size + 1) _ _ HBU.out (by omega)).mono ?_; rintro e w' ⟨rfl, hb⟩))
      go_ret
      exact ⟨rfl, HB.out.trans (hb.mono (by omega))⟩
end Go.Proofs.YtcfbdnlbgcoicaaDoor

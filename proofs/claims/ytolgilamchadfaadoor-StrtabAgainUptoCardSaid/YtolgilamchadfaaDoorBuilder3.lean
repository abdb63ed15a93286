/- Contracts over this translation: a Builder's WriteString leaves alone whatever is no cells, too. -/
import Derived.Test.YtolgilamchadfaaDoorBuilder2
import Derived.RangeFuncWrites
namespace Go.Proofs.YtolgilamchadfaaDoor
set_option linter.unusedVariables false
set_option linter.unusedSimpArgs false
open Go.RowKit

/-- An object that is no row of bytes. -/
def notBytes : Obj → Prop
  | .cells _ T _ => T ≠ 5
  | _ => True
theorem notBytes_of {o : Obj} (h : o.isCells = false) : notBytes o := by
  cases o <;> simp_all [Obj.isCells, notBytes]

set_option maxHeartbeats 2000000 in
theorem writeString_o (Bs b : Nat) (l s : List UInt8) (w : World) (h : Bld Bs b l w) (hlen : l.length + s.length ≤ 140737488355328) :
    Calls Tryd.prog 14 #[.pointer (some ⟨b, 0, none⟩), .string ⟨s.toArray⟩] w fun e w' => e = .returned (.tuple #[.int .i64 s.length, .nilIface]) ∧ Bld Bs b (l ++ s) w' ∧ KeepB Bs b w w' ∧ ∀ (k : Nat) (o : Obj), k ≠ b → notBytes o → w.heap[k]? = some o → w'.heap[k]? = some o := by
  obtain ⟨i0, hi, hz0, hz1, hz2⟩ := info_parts Tryd.infoByte
  have hbs := h.1
  have hsz := h.2.1
  have HB := Lib.hid h
  clear h
  have hsl : (⟨s.toArray⟩ : ByteArray).size = s.length := rfl
  go_enter Tryd.func14, Tryd.ntmps14
  go_wp2_with (go_at_call 25; refine (copyCheck_b Bs b l _ HB.out).mono ?_)
  rintro e w1 ⟨rfl, v, hbk, hown, hk1, hs1, ht1⟩
  have c0 : w1.cell? ⟨b, 0, none⟩ = some (.pointer (some ⟨b, 0, none⟩)) := by rw [Lib.cell_of_heap hbk]; rfl
  have c1 : w1.cell? ⟨b, 1, none⟩ = some v := by rw [Lib.cell_of_heap hbk]; rfl
  have HO := Lib.hid hown
  have HBK := Lib.hid hbk
  have HK1 := Lib.hid hk1
  have hs1' : w.heap.size ≤ w1.heap.size := by omega
  have HT1 := Lib.hid ht1
  clear hown hbk hk1 hs1 ht1
  go_wp2_with (at_builtin; refine Lib.wpList_append_own_string _ rfl _ _ 38 9 rfl Bs 5 i0 Tryd.underlying38 Tryd.underlying9 hi hz0 hz1 hz2 _ _ _ rfl HO.out ⟨s.toArray⟩ rfl ?c3 ?c4 ?c5 ?_)
  case c3 => unfold maxLen; show l.length + s.length ≤ _; omega
  case c4 => show l.length + s.length ≤ _; omega
  case c5 => omega
  intro v' w2 hown' hgrow _
  have hlt : b < w1.heap.size := by omega
  have hne : v.ownBlock ≠ some b := fun e => by have := (HO.out.lt b e).1; omega
  have hb2 : w2.heap[b]? = some (.cells #[.pointer (some ⟨b, 0, none⟩), v] 40 (0, 0)) := by
    rw [hgrow.block b hlt (fun e => hne e.symm)]
    exact HBK.out
  have d0 : w2.cell? ⟨b, 0, none⟩ = some (.pointer (some ⟨b, 0, none⟩)) := by rw [Lib.cell_of_heap hb2]; rfl
  have d1 : w2.cell? ⟨b, 1, none⟩ = some v := by rw [Lib.cell_of_heap hb2]; rfl
  have f1 : w2.frozen? ⟨b, 1, none⟩ = false := Lib.frozen_of_heap hb2 1
  obtain ⟨ao, n', cap, rfl⟩ : ∃ ao n' cap, v' = .slice ao n' cap := by
    rcases hown'.2 with ⟨hv, _⟩ | ⟨g, cap, cur, hv, _⟩
    · exact ⟨_, _, _, hv⟩
    · exact ⟨_, _, _, hv⟩
  have HOW := Lib.hid hown'
  have HG := Lib.hid hgrow
  have HB2 := Lib.hid hb2
  clear hown' hgrow hb2 hne
  go_wp2
  go_ret2
  have hkeep : KeepB Bs b w1 w2 := ⟨HG.out.os, HG.out.tape, HG.out.output, HG.out.size, fun k hk hne => HG.out.block k (by omega) (fun e => by have := (HO.out.lt k e.symm).1; omega)⟩
  refine ⟨rfl, ⟨hbs, by have := HG.out.size; simp; omega, _, .slice ao n' cap, .inr rfl, by simp [World.setCell, Array.getElem?_modify, HB2.out], ?_⟩, (HK1.out.trans hkeep).trans ⟨rfl, rfl, rfl, by simp [World.setCell], fun k _ hne => Below.heap_setCell _ _ _ _ hne⟩, ?_⟩
  rotate_left
  · intro k o hkb hoc hk
    rw [Below.heap_setCell _ _ _ _ hkb]
    have hk1 : w1.heap[k]? = some o := (HT1.out k hkb).trans hk
    rw [HG.out.block k (by
      rcases Nat.lt_or_ge k w1.heap.size with hh | hh
      · exact hh
      · rw [Array.getElem?_eq_none hh] at hk1; cases hk1) ?_]; exact hk1
    intro he
    rcases HO.out.2 with ⟨hv, _⟩ | ⟨g, cp, cu, hv, _, hgc, _⟩
    · rw [hv] at he; cases he
    · rw [hv] at he
      have e2 : g = k := by simpa [Value.ownBlock] using he.symm
      rw [← e2, hgc] at hk1
      injection hk1 with hk1
      rw [← hk1] at hoc
      exact hoc rfl
  have := ownsRow_setCell_below HOW.out (a := ⟨b, 1, none⟩) hbs (.slice ao n' cap)
  rw [byteCells_append, List.length_append]
  exact this
end Go.Proofs.YtolgilamchadfaaDoor

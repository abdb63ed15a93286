/- Contracts over this translation: a Builder's WriteByte and Write. -/
import Derived.Test.YtipnoeffahnfaaaDoorBuilder2
namespace Go.Proofs.YtipnoeffahnfaaaDoor
set_option linter.unusedVariables false
set_option linter.unusedSimpArgs false
open Go.RowKit

/-- What the store behind an append leaves. -/
theorem bld_put {Bs b : Nat} {l l2 : List UInt8} {W w2 : World} {v v' : Value} {n : Nat} (hbs : b < Bs) (hsz : Bs ≤ W.heap.size) (hb2 : w2.heap[b]? = some (.cells #[.pointer (some ⟨b, 0, none⟩), v] 48 (0, 0)))
    (hown : W.ownsRow Bs 5 1 v l.length (Lib.byteCells l)) (hown' : w2.ownsRow Bs 5 1 v' n (Lib.byteCells l2)) (hn : n = l2.length) (hg : W.grownBy w2 v.ownBlock) :
    Bld Bs b l2 (w2.setCell ⟨b, 1, none⟩ v') ∧ KeepB Bs b W (w2.setCell ⟨b, 1, none⟩ v') := by
  subst hn
  refine ⟨⟨hbs, by have := hg.size; simp [World.setCell]; omega, _, v', .inr rfl, by simp [World.setCell, Array.getElem?_modify, hb2], ownsRow_setCell_below hown' (a := ⟨b, 1, none⟩) hbs _⟩, ?_⟩
  have hkeep : KeepB Bs b W w2 := ⟨hg.os, hg.tape, hg.output, hg.size, fun k hk hne => hg.block k (by omega) (fun e => by have := (hown.lt k e.symm).1; omega)⟩
  exact hkeep.trans ⟨rfl, rfl, rfl, by simp [World.setCell], fun k _ hne => Below.heap_setCell _ _ _ _ hne⟩
set_option maxHeartbeats 2000000 in
theorem writeByte_b (Bs b : Nat) (l : List UInt8) (c : UInt8) (w : World) (h : Bld Bs b l w) (hlen : l.length + 1 ≤ 140737488355328) :
    Calls Tryd.prog 26 #[.pointer (some ⟨b, 0, none⟩), .int .u8 (c.toNat : Int)] w fun e w' => e = .returned .nilIface ∧ Bld Bs b (l ++ [c]) w' ∧ KeepB Bs b w w' := by
  obtain ⟨i0, hi, hz0, hz1, hz2⟩ := info_parts Tryd.infoByte
  have hbs := h.1
  have hsz := h.2.1
  have HB := Lib.hid h
  clear h
  go_enter Tryd.func26, Tryd.ntmps26
  go_wp2_with (go_at_call 35; refine (copyCheck_b Bs b l _ HB.out).mono ?_)
  rintro e w1 ⟨rfl, v, hbk, hown, hk1, hs1, ht1⟩
  have c0 : w1.cell? ⟨b, 0, none⟩ = some (.pointer (some ⟨b, 0, none⟩)) := by rw [Lib.cell_of_heap hbk]; rfl
  have c1 : w1.cell? ⟨b, 1, none⟩ = some v := by rw [Lib.cell_of_heap hbk]; rfl
  have HO := Lib.hid hown
  have HBK := Lib.hid hbk
  have HK1 := Lib.hid hk1
  have hs1' : w.heap.size ≤ w1.heap.size := by omega
  clear hown hbk hk1 hs1 ht1
  go_wp2_with (at_builtin; refine wpList_append_own _ rfl _ _ 24 rfl Bs 5 i0 (.int .u8 0) 1 1 Tryd.underlying24 hi hz0 hz1 hz2 rfl (by decide) _ _ _ rfl (HO.out.alloc _) ⟨w1.heap.size, 0, none⟩ 1 1 [.int .u8 (c.toNat : Int)] rfl rfl ?c1 ?c2 ?c3 ?c4 ?c5 ?_)
  case c1 =>
    intro j u hj
    match j, hj with
    | 0, hj => simp at hj; subst hj; simp [Addr.add]
  case c2 => intro u hu; simp at hu; subst hu; rfl
  case c3 => unfold maxLen; omega
  case c4 => omega
  case c5 => simp; omega
  intro v' w2 hown' hgrow _
  have hlt : b < w1.heap.size := by omega
  have hne : v.ownBlock ≠ some b := fun e => by have := (HO.out.lt b e).1; omega
  have hg : w1.grownBy w2 v.ownBlock := ⟨hgrow.os, hgrow.tape, hgrow.output, by have := hgrow.size; simp at this; omega, fun k hk hne => (hgrow.block k (by simp; omega) hne).trans (heap_past w1 _ k hk)⟩
  have hb2 : w2.heap[b]? = some (.cells #[.pointer (some ⟨b, 0, none⟩), v] 48 (0, 0)) := by
    rw [hg.block b hlt (fun e => hne e.symm)]
    exact HBK.out
  have d0 : w2.cell? ⟨b, 0, none⟩ = some (.pointer (some ⟨b, 0, none⟩)) := by rw [Lib.cell_of_heap hb2]; rfl
  have d1 : w2.cell? ⟨b, 1, none⟩ = some v := by rw [Lib.cell_of_heap hb2]; rfl
  have f1 : w2.frozen? ⟨b, 1, none⟩ = false := Lib.frozen_of_heap hb2 1
  obtain ⟨ao, n', cap, rfl⟩ : ∃ ao n' cap, v' = .slice ao n' cap := by
    rcases hown'.2 with ⟨hv, _⟩ | ⟨g, cap, cur, hv, _⟩
    · exact ⟨_, _, _, hv⟩
    · exact ⟨_, _, _, hv⟩
  have HOW := Lib.hid hown'
  have HG := Lib.hid hg
  have HB2 := Lib.hid hb2
  clear hown' hgrow hb2 hne hg
  go_wp2
  go_ret
  have hcs : Lib.byteCells l ++ [.int .u8 (c.toNat : Int)] = Lib.byteCells (l ++ [c]) := by rw [byteCells_append]; rfl
  have hput := bld_put (l2 := l ++ [c]) hbs (by omega) HB2.out HO.out (by rw [← hcs]; exact HOW.out) (by simp) HG.out
  exact ⟨rfl, hput.1, HK1.out.trans hput.2⟩
set_option maxHeartbeats 2000000 in
theorem write_b (Bs b : Nat) (l s : List UInt8) (p : Addr) (cap0 : Nat) (w : World) (h : Bld Bs b l w) (hlen : l.length + s.length ≤ 140737488355328) (hp : ∀ j u, (Lib.byteCells s)[j]? = some u → w.cell? (p.add j) = some u) (hpb : p.block ≠ b) :
    Calls Tryd.prog 29 #[.pointer (some ⟨b, 0, none⟩), .slice (some p) s.length cap0] w fun e w' => e = .returned (.tuple #[.int .i64 s.length, .nilIface]) ∧ Bld Bs b (l ++ s) w' ∧ KeepB Bs b w w' := by
  obtain ⟨i0, hi, hz0, hz1, hz2⟩ := info_parts Tryd.infoByte
  have hbs := h.1
  have hsz := h.2.1
  have HB := Lib.hid h
  have HP := Lib.hid hp
  clear h hp
  go_enter Tryd.func29, Tryd.ntmps29
  go_wp2_with (go_at_call 35; refine (copyCheck_b Bs b l _ HB.out).mono ?_)
  rintro e w1 ⟨rfl, v, hbk, hown, hk1, hs1, ht1⟩
  have c0 : w1.cell? ⟨b, 0, none⟩ = some (.pointer (some ⟨b, 0, none⟩)) := by rw [Lib.cell_of_heap hbk]; rfl
  have c1 : w1.cell? ⟨b, 1, none⟩ = some v := by rw [Lib.cell_of_heap hbk]; rfl
  have HO := Lib.hid hown
  have HBK := Lib.hid hbk
  have HK1 := Lib.hid hk1
  have HN := Lib.hid (show ∀ j u, (Lib.byteCells s)[j]? = some u → w1.cell? (p.add j) = some u from fun j u hj => by
    have h9 := HP.out j u hj
    have hb9 : (p.add j).block = p.block := by unfold Addr.add; split <;> rfl
    rw [World.cell?_of_block (w := w) (a := p.add j) (by rw [hb9]; exact ht1 _ hpb)]
    exact h9)
  have hs1' : w.heap.size ≤ w1.heap.size := by omega
  clear hown hbk hk1 hs1 ht1
  go_wp2_with (at_builtin; refine wpList_append_own _ rfl _ _ 24 rfl Bs 5 i0 (.int .u8 0) 1 1 Tryd.underlying24 hi hz0 hz1 hz2 rfl (by decide) _ _ _ rfl HO.out p s.length cap0 (Lib.byteCells s) rfl (by rw [byteCells_length, Nat.mul_one]) ?c1 ?c2 ?c3 ?c4 ?c5 ?_)
  case c1 => exact HN.out
  case c2 => intro u hu; unfold Lib.byteCells at hu; obtain ⟨b, _, rfl⟩ := List.mem_map.1 hu; rfl
  case c3 => unfold maxLen; omega
  case c4 => omega
  case c5 => omega
  intro v' w2 hown' hg _
  have hlt : b < w1.heap.size := by omega
  have hne : v.ownBlock ≠ some b := fun e => by have := (HO.out.lt b e).1; omega
  have hb2 : w2.heap[b]? = some (.cells #[.pointer (some ⟨b, 0, none⟩), v] 48 (0, 0)) := by
    rw [hg.block b hlt (fun e => hne e.symm)]
    exact HBK.out
  have d0 : w2.cell? ⟨b, 0, none⟩ = some (.pointer (some ⟨b, 0, none⟩)) := by rw [Lib.cell_of_heap hb2]; rfl
  have d1 : w2.cell? ⟨b, 1, none⟩ = some v := by rw [Lib.cell_of_heap hb2]; rfl
  have f1 : w2.frozen? ⟨b, 1, none⟩ = false := Lib.frozen_of_heap hb2 1
  obtain ⟨ao, n', cap, rfl⟩ : ∃ ao n' cap, v' = .slice ao n' cap := by
    rcases hown'.2 with ⟨hv, _⟩ | ⟨g, cap, cur, hv, _⟩
    · exact ⟨_, _, _, hv⟩
    · exact ⟨_, _, _, hv⟩
  have HOW := Lib.hid hown'
  have HG := Lib.hid hg
  have HB2 := Lib.hid hb2
  clear hown' hb2 hne hg
  go_wp2
  go_ret2
  have hput := bld_put (l2 := l ++ s) hbs (by omega) HB2.out HO.out (by rw [byteCells_append]; exact HOW.out) (by simp) HG.out
  exact ⟨rfl, hput.1, HK1.out.trans hput.2⟩
end Go.Proofs.YtipnoeffahnfaaaDoor

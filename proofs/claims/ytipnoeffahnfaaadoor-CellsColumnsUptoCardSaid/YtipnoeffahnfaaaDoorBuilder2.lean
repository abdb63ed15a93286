/- Contracts over this translation: a strings.Builder that the call has made, with what the writes leave alone: every block below a mark but the builder's own. -/
import Derived.Test.YtipnoeffahnfaaaDoorBuilder
import Derived.Test.YtipnoeffahnfaaaDoorShelf
import Derived.Test.YtipnoeffahnfaaaDoorShelfB
import Derived.Lib.AppendStr
import Derived.Shelf.Strings.Builder1
namespace Go.Proofs.YtipnoeffahnfaaaDoor
set_option linter.unusedVariables false
set_option linter.unusedSimpArgs false
open Go.RowKit

/-- Block b is a builder that holds the bytes l; its buffer lies from block Bs on. -/
def Bld (Bs b : Nat) (l : List UInt8) (w : World) : Prop :=
  b < Bs ∧ Bs ≤ w.heap.size ∧ ∃ p v, (p = .pointer none ∨ p = .pointer (some ⟨b, 0, none⟩)) ∧ w.heap[b]? = some (.cells #[p, v] 48 (0, 0)) ∧ w.ownsRow Bs 5 1 v l.length (Lib.byteCells l)
/-- What a builder's writes leave alone. -/
structure KeepB (Bs b : Nat) (w w' : World) : Prop where
  os : w'.os = w.os
  tape : w'.tape = w.tape
  output : w'.output = w.output
  size : w.heap.size ≤ w'.heap.size
  block : ∀ k, k < Bs → k ≠ b → w'.heap[k]? = w.heap[k]?
theorem KeepB.below {B Bs b : Nat} {w w' : World} (h : KeepB Bs b w w') (h1 : B ≤ b) (h2 : b < Bs) : Below B w w' := ⟨h.os, h.tape, h.output, h.size, fun k hk => h.block k (by omega) (by omega)⟩
theorem KeepB.trans {Bs b : Nat} {w w1 w2 : World} (h : KeepB Bs b w w1) (h2 : KeepB Bs b w1 w2) : KeepB Bs b w w2 :=
  ⟨h2.os.trans h.os, h2.tape.trans h.tape, h2.output.trans h.output, Nat.le_trans h.size h2.size, fun k hk hne => (h2.block k hk hne).trans (h.block k hk hne)⟩
theorem KeepB.of_below {B Bs b : Nat} {w w' : World} (h : Below B w w') (hB : Bs ≤ B) : KeepB Bs b w w' := ⟨h.os, h.tape, h.output, h.size, fun k hk _ => h.block k (by omega)⟩
theorem KeepB.cell {Bs b : Nat} {w w' : World} (h : KeepB Bs b w w') {p : Addr} (hp : p.block < Bs) (hne : p.block ≠ b) : w'.cell? p = w.cell? p := World.cell?_of_block (w := w) (h.block p.block hp hne)
theorem KeepB.undrew {Bs b : Nat} {w w' : World} (h : KeepB Bs b w.drew w') : KeepB Bs b w w' := ⟨h.os, h.tape, h.output, h.size, h.block⟩
theorem Bld.below {Bs b : Nat} {l : List UInt8} {w w' : World} (h : Bld Bs b l w) (hb : Below w.heap.size w w') : Bld Bs b l w' := by
  obtain ⟨h1, h2, p, v, h3, h4, h5⟩ := h
  exact ⟨h1, Nat.le_trans h2 hb.size, p, v, h3, by rw [hb.block b (by omega)]; exact h4, ownsRow_below h5 hb⟩
/-- A builder that the call has just made. -/
theorem Bld.fresh {w : World} {b Bs : Nat} (hb : w.heap[b]? = some (.cells #[.pointer none, .slice none 0 0] 48 (0, 0))) (h1 : b < Bs) (h2 : Bs ≤ w.heap.size) : Bld Bs b [] w :=
  ⟨h1, h2, _, _, .inl rfl, hb, World.ownsRow_nil _ _ _ _⟩
theorem ownsRow_mono {w : World} {base base' : Nat} {e : TypeId} {size n : Nat} {v : Value} {cs : List Value} (h : w.ownsRow base e size v n cs) (hb : base' ≤ base) : w.ownsRow base' e size v n cs := by
  obtain ⟨hl, h | ⟨g, cap, cur, hv, hg, r⟩⟩ := h
  · exact ⟨hl, .inl h⟩
  · exact ⟨hl, .inr ⟨g, cap, cur, hv, Nat.le_trans hb hg, r⟩⟩
theorem Bld.is {Bs b : Nat} {l : List UInt8} {w : World} (h : Bld Bs b l w) : Lib.IsBuilder 48 5 b b (Lib.byteCells l) w := by
  obtain ⟨h1, h2, p, v, h3, h4, h5⟩ := h
  have hne : v.ownBlock ≠ some b := fun e => by have := (h5.lt b e).1; omega
  have h6 := ownsRow_mono h5 (Nat.le_of_lt h1)
  rw [← byteCells_length l] at h6
  rcases h3 with rfl | rfl
  · exact .inl ⟨Nat.le_refl _, v, h4, h6, hne⟩
  · exact .inr ⟨Nat.le_refl _, v, h4, h6, hne⟩

theorem copyCheck_b (Bs b : Nat) (l : List UInt8) (w : World) (h : Bld Bs b l w) :
    Calls Tryd.prog 35 #[.pointer (some ⟨b, 0, none⟩)] w fun e w' => e = .returned (.tuple #[]) ∧ ∃ v, w'.heap[b]? = some (.cells #[.pointer (some ⟨b, 0, none⟩), v] 48 (0, 0)) ∧ w'.ownsRow Bs 5 1 v l.length (Lib.byteCells l) ∧ KeepB Bs b w w' ∧ w'.heap.size = w.heap.size ∧ ∀ k, k ≠ b → w'.heap[k]? = w.heap[k]? := by
  obtain ⟨h1, h2, p, v, h3, h4, h5⟩ := h
  rcases h3 with rfl | rfl
  · refine (Any.Builder_copyCheck_fresh Tryd.lays240 Tryd.Builder_X72_240 b w (by rw [Lib.cell_of_heap h4]; rfl) (by simp [World.shape?, h4]; rfl) (Lib.frozen_of_heap h4 0)).mono ?_
    rintro e w' ⟨rfl, rfl⟩
    refine ⟨rfl, v, by simp [World.setCell, Array.getElem?_modify, h4], ?_, ⟨rfl, rfl, rfl, by simp [World.setCell], fun k _ hne => Below.heap_setCell _ _ _ _ hne⟩, by simp [World.setCell], fun k hne => Below.heap_setCell _ _ _ _ hne⟩
    exact ownsRow_setCell_below h5 h1 _
  · refine (Any.Builder_copyCheck_used Tryd.lays240 Tryd.Builder_X72_240 b w (by rw [Lib.cell_of_heap h4]; rfl)).mono ?_
    rintro e w' ⟨rfl, rfl⟩
    exact ⟨rfl, v, h4, h5, ⟨rfl, rfl, rfl, Nat.le_refl _, fun _ _ _ => rfl⟩, rfl, fun _ _ => rfl⟩

theorem Tryd.infoByte : (Tryd.prog.info? 5).map (fun i => (i.zero, i.size, i.bytes)) = some (some (.int .u8 0), 1, 1) := by kernel_rfl
set_option maxHeartbeats 2000000 in
theorem writeString_t (Bs b : Nat) (l s : List UInt8) (w : World) (h : Bld Bs b l w) (hlen : l.length + s.length ≤ 140737488355328) :
    Calls Tryd.prog 22 #[.pointer (some ⟨b, 0, none⟩), .string ⟨s.toArray⟩] w fun e w' => e = .returned (.tuple #[.int .i64 s.length, .nilIface]) ∧ Bld Bs b (l ++ s) w' ∧ KeepB Bs b w w' ∧ ∀ k cs T r, k ≠ b → T ≠ 5 → w.heap[k]? = some (.cells cs T r) → w'.heap[k]? = some (.cells cs T r) := by
  obtain ⟨i0, hi, hz0, hz1, hz2⟩ := info_parts Tryd.infoByte
  have hbs := h.1
  have hsz := h.2.1
  have HB := Lib.hid h
  clear h
  have hsl : (⟨s.toArray⟩ : ByteArray).size = s.length := rfl
  go_enter Tryd.func22, Tryd.ntmps22
  go_wp2_with (go_at_call 35; refine (copyCheck_b Bs b l _ HB.out).mono ?_)
  rintro e w1 ⟨rfl, v, hbk, hown, hk1, hs1, ht1⟩
  have c0 : w1.cell? ⟨b, 0, none⟩ = some (.pointer (some ⟨b, 0, none⟩)) := by rw [Lib.cell_of_heap hbk]; rfl
  have c1 : w1.cell? ⟨b, 1, none⟩ = some v := by rw [Lib.cell_of_heap hbk]; rfl
  have HO := Lib.hid hown
  have HBK := Lib.hid hbk
  have HK1 := Lib.hid hk1
  have hs1' : w.heap.size ≤ w1.heap.size := by omega
  have HT1 := Lib.hid ht1
  clear hown hbk hk1 hs1 ht1
  go_wp2_with (at_builtin; refine Lib.wpList_append_own_string _ rfl _ _ 24 9 rfl Bs 5 i0 Tryd.underlying24 Tryd.underlying9 hi hz0 hz1 hz2 _ _ _ rfl HO.out ⟨s.toArray⟩ rfl ?c3 ?c4 ?c5 ?_)
  case c3 => unfold maxLen; show l.length + s.length ≤ _; omega
  case c4 => show l.length + s.length ≤ _; omega
  case c5 => omega
  intro v' w2 hown' hgrow _
  have hlt : b < w1.heap.size := by omega
  have hne : v.ownBlock ≠ some b := fun e => by have := (HO.out.lt b e).1; omega
  have hb2 : w2.heap[b]? = some (.cells #[.pointer (some ⟨b, 0, none⟩), v] 48 (0, 0)) := by
    rw [hgrow.block b hlt (fun e => hne e.symm)]
    exact HBK.out
  have d0 : w2.cell? ⟨b, 0, none⟩ = some (.pointer (some ⟨b, 0, none⟩)) := by rw [Lib.cell_of_heap hb2]; rfl
  have d1 : w2.cell? ⟨b, 1, none⟩ = some v := by rw [Lib.cell_of_heap hb2]; rfl
  have f1 : w2.frozen? ⟨b, 1, none⟩ = false := Lib.frozen_of_heap hb2 1
  obtain ⟨ao, n', cap, rfl⟩ : ∃ ao n' cap, v' = .slice ao n' cap := by
    rcases hown'.2 with ⟨hv, _⟩ | ⟨g, cap, cur, hv, _⟩
    · exact ⟨_, _, _, hv⟩
    · exact ⟨_, _, _, hv⟩
  have HOW := Lib.hid hown'
  have HG := Lib.hid hgrow
  have HB2 := Lib.hid hb2
  clear hown' hgrow hb2 hne
  go_wp2
  go_ret2
  have hkeep : KeepB Bs b w1 w2 := ⟨HG.out.os, HG.out.tape, HG.out.output, HG.out.size, fun k hk hne => HG.out.block k (by omega) (fun e => by have := (HO.out.lt k e.symm).1; omega)⟩
  refine ⟨rfl, ⟨hbs, by have := HG.out.size; simp; omega, _, .slice ao n' cap, .inr rfl, by simp [World.setCell, Array.getElem?_modify, HB2.out], ?_⟩, (HK1.out.trans hkeep).trans ⟨rfl, rfl, rfl, by simp [World.setCell], fun k _ hne => Below.heap_setCell _ _ _ _ hne⟩, ?_⟩
  rotate_left
  · intro k cs T r hkb hT hk
    rw [Below.heap_setCell _ _ _ _ hkb]
    have hk1 : w1.heap[k]? = some (.cells cs T r) := (HT1.out k hkb).trans hk
    rw [HG.out.block k (by
      rcases Nat.lt_or_ge k w1.heap.size with hh | hh
      · exact hh
      · rw [Array.getElem?_eq_none hh] at hk1; cases hk1) ?_]; exact hk1
    intro he
    rcases HO.out.2 with ⟨hv, _⟩ | ⟨g, cp, cu, hv, _, hgc, _⟩
    · rw [hv] at he; cases he
    · rw [hv] at he
      have e2 : g = k := by simpa [Value.ownBlock] using he.symm
      rw [← e2, hgc] at hk1
      injection hk1 with hk1; injection hk1 with _ hk1 _
      exact hT hk1.symm
  have := ownsRow_setCell_below HOW.out (a := ⟨b, 1, none⟩) hbs (.slice ao n' cap)
  rw [byteCells_append, List.length_append]
  exact this
theorem writeString_b (Bs b : Nat) (l s : List UInt8) (w : World) (h : Bld Bs b l w) (hlen : l.length + s.length ≤ 140737488355328) :
    Calls Tryd.prog 22 #[.pointer (some ⟨b, 0, none⟩), .string ⟨s.toArray⟩] w fun e w' => e = .returned (.tuple #[.int .i64 s.length, .nilIface]) ∧ Bld Bs b (l ++ s) w' ∧ KeepB Bs b w w' :=
  (writeString_t Bs b l s w h hlen).mono (by rintro e w' ⟨h1, h2, h3, _⟩; exact ⟨h1, h2, h3⟩)
theorem string_b (Bs b : Nat) (l : List UInt8) (w : World) (h : Bld Bs b l w) :
    Calls Tryd.prog 23 #[.pointer (some ⟨b, 0, none⟩)] w fun e w' => e = .returned (.string ⟨l.toArray⟩) ∧ Below b w w' :=
  Tryd.Builder_String_any b b l w h.is (by have := h.1; have := h.2.1; omega)
theorem len_b (Bs b : Nat) (l : List UInt8) (w : World) (h : Bld Bs b l w) : Calls Tryd.prog 34 #[.pointer (some ⟨b, 0, none⟩)] w fun e w' => e = .returned (.int .i64 (l.length : Int)) ∧ w' = w := by have := Tryd.Builder_Len b b (Lib.byteCells l) w h.is; rw [byteCells_length] at this; exact this
end Go.Proofs.YtipnoeffahnfaaaDoor

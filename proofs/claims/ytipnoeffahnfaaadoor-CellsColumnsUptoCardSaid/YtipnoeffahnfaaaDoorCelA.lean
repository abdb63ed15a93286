/- Contracts over this translation: cells.plain, cells.Cell. -/
import Derived.Test.YtipnoeffahnfaaaDoorBuilder4
import Derived.Test.YtipnoeffahnfaaaDoorCelP
import Derived.Test.YtipnoeffahnfaaaDoorProg
import Derived.Outline
import Derived.WalkSpells
import Derived.Deep.RegionHeld3
import Derived.Laws.BitsLemmas
namespace Go.Proofs.YtipnoeffahnfaaaDoor
set_option linter.unusedVariables false
set_option linter.unusedSimpArgs false
open Go.RowKit

theorem plain_any (c : UInt8) (w : World) : Calls Tryd.prog 28 #[.int .u8 (c.toNat : Int)] w fun e w' => e = .returned (.bool (plainB c)) ∧ w' = w := by
  have hc := c.toNat_lt
  have h37 : (c == 37) = decide (c.toNat = 37) := by
    rw [Bool.eq_iff_iff, beq_iff_eq, decide_eq_true_iff, ← UInt8.toNat_inj]; rfl
  by_cases h1 : 33 ≤ c.toNat
  · by_cases h2 : c.toNat ≤ 126
    · by_cases h3 : c.toNat = 37
      · have hp : plainB c = false := by unfold plainB; rw [h37]; simp [h3]
        rw [hp]
        have g1 : (33 : Int) ≤ (c.toNat : Int) := by omega
        have g2 : (c.toNat : Int) ≤ 126 := by omega
        have g3 : (((c.toNat : Int)) != 37) = false := by simp [h3]
        clear hp h37 h3
        go_enter Tryd.func28, Tryd.ntmps28
        go_wp2
        go_ret
        exact ⟨rfl, rfl⟩
      · have hp : plainB c = true := by unfold plainB; rw [h37]; simp [h1, h2, h3]
        rw [hp]
        have g1 : (33 : Int) ≤ (c.toNat : Int) := by omega
        have g2 : (c.toNat : Int) ≤ 126 := by omega
        have g3 : (((c.toNat : Int)) != 37) = true := by simp; omega
        clear hp h37 h3
        go_enter Tryd.func28, Tryd.ntmps28
        go_wp2
        go_ret
        exact ⟨rfl, rfl⟩
    · have hp : plainB c = false := by unfold plainB; simp [h2]
      rw [hp]
      have g1 : (33 : Int) ≤ (c.toNat : Int) := by omega
      have g2 : ¬ (c.toNat : Int) ≤ 126 := by omega
      clear hp h37
      go_enter Tryd.func28, Tryd.ntmps28
      go_wp2
      go_ret
      exact ⟨rfl, rfl⟩
  · have hp : plainB c = false := by unfold plainB; simp [h1]
    rw [hp]
    have g1 : ¬ (33 : Int) ≤ (c.toNat : Int) := by omega
    clear hp h37
    go_enter Tryd.func28, Tryd.ntmps28
    go_wp2
    go_ret
    exact ⟨rfl, rfl⟩
theorem caps_index (n : Nat) (hn : n < 16) (W : World) : (Instr.index 9 (.string ⟨#[48, 49, 50, 51, 52, 53, 54, 55, 56, 57, 65, 66, 67, 68, 69, 70]⟩) (.int .u8 (n : Int))).run Tryd.prog W = .ok (.int .u8 ((capD n).toNat : Int)) W := by
  obtain rfl | rfl | rfl | rfl | rfl | rfl | rfl | rfl | rfl | rfl | rfl | rfl | rfl | rfl | rfl | rfl : n = 0 ∨ n = 1 ∨ n = 2 ∨ n = 3 ∨ n = 4 ∨ n = 5 ∨ n = 6 ∨ n = 7 ∨ n = 8 ∨ n = 9 ∨ n = 10 ∨ n = 11 ∨ n = 12 ∨ n = 13 ∨ n = 14 ∨ n = 15 := by omega
  all_goals kernel_rfl
theorem three_new (w : World) (s : List UInt8) (t : TypeId) : ∀ j u, (Lib.byteCells s)[j]? = some u → ((w.alloc (.cells (Lib.byteCells s).toArray t)).drew).cell? ((⟨w.heap.size, 0, none⟩ : Addr).add j) = some u := fun j u hj => by
  show (w.alloc (.cells (Lib.byteCells s).toArray t)).cell? _ = _
  exact new_cells w _ (Lib.byteCells s) t rfl j u hj
theorem flat_snoc (l : List UInt8) (k : Nat) (h : k < l.length) : (l.take (k + 1)).flatMap encC = (l.take k).flatMap encC ++ encC l[k] := by
  rw [List.take_succ_eq_append_getElem h, List.flatMap_append]; simp
set_option maxHeartbeats 1000000 in
theorem cell_any (l : List UInt8) (hl : l.length ≤ 1000000000) (w : World) :
    Calls Tryd.prog 16 #[.string ⟨l.toArray⟩] w fun e w' => e = .returned (.string ⟨(cellR l).toArray⟩) ∧ Below w.heap.size w w' := by
  by_cases h0 : l = []
  · subst h0
    go_enter Tryd.func16, Tryd.ntmps16
    go_wp2
    go_ret
    exact ⟨rfl, Below.refl _ _⟩
  · have hR : cellR l = l.flatMap encC := by unfold cellR; rw [if_neg h0]
    rw [hR]
    have hne : l.isEmpty = false := Bool.eq_false_iff.2 (fun h => h0 (List.isEmpty_iff.1 h))
    have kc := fun (W : World) (t : ByteArray) => Lib.run_convert_string_bytes (P := Tryd.prog) W 9 24 5 t Tryd.underlying9 Tryd.underlying24 Tryd.underlying5
    clear hR
    go_enter Tryd.func16, Tryd.ntmps16
    go_wp2
    have HB0 := Lib.hid (show Bld (w.heap.size + 2) w.heap.size [] (Lib.bytesWorld (w.alloc (.cells #[.pointer none, .slice none 0 0] 48)) 5 ⟨l.toArray⟩) from
      Bld.fresh (by rw [Lib.bytesWorld_at_old _ _ _ _ (by simp)]; exact heap_at _ _ _ rfl) (by omega) (by rw [Lib.bytesWorld_size]; simp))
    have HW0 := Lib.hid (show Below w.heap.size w (Lib.bytesWorld (w.alloc (.cells #[.pointer none, .slice none 0 0] 48)) 5 ⟨l.toArray⟩) from
      ((Below.refl _ _).alloc (Nat.le_refl _) _).trans ((below_bytesWorld _ _ _).mono (by simp)))
    have HC0 := Lib.hid (show ∀ j (hj : j < l.length), (Lib.bytesWorld (w.alloc (.cells #[.pointer none, .slice none 0 0] 48)) 5 ⟨l.toArray⟩).cell? ⟨w.heap.size + 1, j, none⟩ = some (.int .u8 (l[j].toNat : Int)) from fun j hj => by
      have hs1 : w.heap.size + 1 = (w.alloc (.cells #[.pointer none, .slice none 0 0] 48)).heap.size := by simp
      rw [hs1, Lib.bytesWorld_cell _ _ _ _ (by show j < l.toArray.size; simpa using hj)]
      simp [hj])
    clear kc
    go_loopw [11] (fun i wr => ∃ k : Nat, k ≤ l.length ∧ i = .int .i64 k ∧ Hid (Bld (w.heap.size + 2) w.heap.size ((l.take k).flatMap encC) wr) ∧ Hid (Below w.heap.size w wr) ∧ Hid (∀ j (hj : j < l.length), wr.cell? ⟨w.heap.size + 1, j, none⟩ = some (.int .u8 (l[j].toNat : Int)))) (fun i _ => l.length - (intOf i).toNat)
    case atStart => exact ⟨0, Nat.zero_le _, rfl, by simpa using HB0, HW0, HC0⟩
    case round =>
      obtain ⟨k, hk, rfl, HB, HW, HC⟩ := hrel
      by_cases hlt : k < l.length
      · obtain ⟨c, hc⟩ : ∃ c, c = l[k] := ⟨_, rfl⟩
        have q0 := HC.out k hlt
        rw [← hc] at q0
        have hsn := flat_snoc l k hlt
        rw [← hc] at hsn
        have HS := Lib.hid hsn
        have HP := Lib.hid (fun W => plain_any c W)
        obtain ⟨q, hq⟩ : ∃ q, q = plainB c := ⟨_, rfl⟩
        rw [← hq] at HP
        have HLEN := Lib.hid (show ((l.take k).flatMap encC).length + 3 ≤ 140737488355328 by
          have := flat_enc_len (l.take k)
          rw [List.length_take] at this
          omega)
        have hsz := HW.out.size
        have hc256 := c.toNat_lt
        clear hc hsn
        cases q
        · have HE := Lib.hid (show encC c = [37, capD (c.toNat / 16), capD (c.toNat % 16)] by unfold encC; rw [if_neg (by rw [← hq]; decide)])
          clear hq
          obtain ⟨n1, hn1⟩ : ∃ n1, n1 = c.toNat / 16 := ⟨_, rfl⟩
          obtain ⟨n2, hn2⟩ : ∃ n2, n2 = c.toNat % 16 := ⟨_, rfl⟩
          have ha : bits .and .u8 (c.toNat : Int) 15 = (n2 : Int) := (u8_and15 (x := (c.toNat : Int)) (by omega) (by omega)).trans (by rw [hn2]; rfl)
          have hd : (c.toNat : Int) / 16 = (n1 : Int) := by rw [hn1]; rfl
          have i1 := fun W => caps_index n1 (by omega) W
          have i2 := fun W => caps_index n2 (by omega) W
          rw [← hn1, ← hn2] at HE
          clear hn1 hn2
          go_wp2_with (first | (go_at_call 28; refine (HP.out _).mono ?_; rintro e w' ⟨rfl, rfl⟩))
          have hsz2 := HB.out.2.1
          go_region_held3 (fun _ => True) (exact trivial) (first | (go_at_call 29; refine (write_b (w.heap.size + 2) w.heap.size _ [37, capD n1, capD n2] ⟨w'.heap.size, 0, none⟩ 3 _ (HB.out.below ((Below.refl w'.heap.size w').alloc (Nat.le_refl _) _).drew) (by have := HLEN.out; simpa using this) (three_new w' [37, capD n1, capD n2] _) (by show w'.heap.size ≠ w.heap.size; omega)).mono ?_; rintro e w2 ⟨rfl, hb2, hk2⟩; have HB2 := Lib.hid hb2; have HK2 := Lib.hid ((KeepB.of_below ((Below.refl w'.heap.size w').alloc (Nat.le_refl _) _).drew hsz2).trans hk2); clear hb2 hk2))
          all_goals (try go_wp2)
          all_goals
            refine ⟨⟨k + 1, by omega, by go_num, Lib.hid (by rw [HS.out, HE.out]; exact HB2.out), Lib.hid (HW.out.trans (HK2.out.below (Nat.le_refl _) (by omega))), Lib.hid (fun j hj => ?_)⟩, by simp [intOf]; omega⟩
            rw [HK2.out.cell (p := ⟨w.heap.size + 1, j, none⟩) (by show w.heap.size + 1 < w.heap.size + 2; omega) (by show w.heap.size + 1 ≠ w.heap.size; omega)]
            exact HC.out j hj
        · have HE := Lib.hid (show encC c = [c] by unfold encC; rw [if_pos (by rw [← hq])])
          clear hq
          go_wp2_with (first
            | (go_at_call 28; refine (HP.out _).mono ?_; rintro e w' ⟨rfl, rfl⟩)
            | (go_at_call 26; refine (writeByte_b (w.heap.size + 2) w.heap.size _ c _ HB.out (by have := HLEN.out; omega)).mono ?_; rintro e w2 ⟨rfl, hb2, hk2⟩; have HB2 := Lib.hid hb2; have HK2 := Lib.hid hk2; clear hb2 hk2))
          go_roundw
          case rel =>
            refine ⟨k + 1, by omega, by go_num, Lib.hid ?_, Lib.hid (HW.out.trans (HK2.out.below (Nat.le_refl _) (by omega))), Lib.hid (fun j hj => ?_)⟩
            · rw [HS.out, HE.out]; exact HB2.out
            · rw [HK2.out.cell (p := ⟨w.heap.size + 1, j, none⟩) (by show w.heap.size + 1 < w.heap.size + 2; omega) (by show w.heap.size + 1 ≠ w.heap.size; omega)]
              exact HC.out j hj
          case measure => simp [intOf]; omega
      · obtain rfl : k = l.length := by omega
        have HB1 := Lib.hid (show Bld (w.heap.size + 2) w.heap.size (l.flatMap encC) wr by have := HB.out; rw [List.take_length] at this; exact this)
        go_wp2_with (first | (go_at_call 23; refine (string_b (w.heap.size + 2) w.heap.size _ _ HB1.out).mono ?_; rintro e w2 ⟨rfl, hb2⟩; have HB2 := Lib.hid hb2; clear hb2))
        go_ret
        exact ⟨rfl, HW.out.trans HB2.out⟩
end Go.Proofs.YtipnoeffahnfaaaDoor

/- Contracts over this translation: cells.Text. -/
import Derived.Test.YtipnoeffahnfaaaDoorCelA
import Derived.Deep.QuietTactic
import Derived.BigQuiet
import Derived.Deep.RegionWith
import Derived.IntWalk
namespace Go.Proofs.YtipnoeffahnfaaaDoor
set_option linter.unusedVariables false
set_option linter.unusedSimpArgs false
open Go.RowKit

theorem ixb_lt (b : UInt8) : ∀ l : List UInt8, Lib.indexByte l b < l.length ∨ Lib.indexByte l b = -1
  | [] => .inr rfl
  | x :: r => by
    unfold Lib.indexByte
    have := ixb_lt b r
    have := Lib.indexByte_ge r b
    split
    · left; simp
    · split
      · right; rfl
      · rename_i h
        have h2 : ¬ Lib.indexByte r b = -1 := by simpa using h
        left; rw [List.length_cons]; omega
theorem caps_lt (b : UInt8) : Lib.indexByte capsL b < 16 ∧ -1 ≤ Lib.indexByte capsL b := by
  have := ixb_lt b capsL
  have h2 := Lib.indexByte_ge capsL b
  have h3 : capsL.length = 16 := rfl
  omega
theorem index_caps (b : UInt8) (w : World) : Calls Tryd.prog 27 #[.string ⟨#[48, 49, 50, 51, 52, 53, 54, 55, 56, 57, 65, 66, 67, 68, 69, 70]⟩, .int .u8 (b.toNat : Int)] w fun e w' => e = .returned (.int .i64 (Lib.indexByte capsL b)) ∧ w' = w := by
  have h := Tryd.strings_IndexByte ⟨#[48, 49, 50, 51, 52, 53, 54, 55, 56, 57, 65, 66, 67, 68, 69, 70]⟩ (b.toNat : Int) w
  have e : (b.toNat : Int).toNat.toUInt8 = b := by rw [Int.toNat_natCast]; simp
  rw [e] at h
  exact h
theorem str_index (l : List UInt8) (k : Nat) (c : UInt8) (h : k < l.length) (hc : c = l[k]) (W : World) : (Instr.index 9 (.string ⟨l.toArray⟩) (.int .i64 (k : Int))).run Tryd.prog W = .ok (.int .u8 (c.toNat : Int)) W := by
  rw [run_index_string W 9 ⟨l.toArray⟩ .i64 k Tryd.underlying9, hc]
  have h3 : (0 : Int) ≤ (k : Int) ∧ (k : Int) < ((⟨l.toArray⟩ : ByteArray).size : Int) := ⟨by omega, by show (k : Int) < (l.length : Int); omega⟩
  rw [dif_pos h3]
  rfl
theorem or_shl : ∀ h < 16, ∀ l < 16, bits .or .i64 ((h : Nat) * 16 : Int) (l : Nat) = ((h * 16 + l : Nat) : Int) := by decide +kernel
theorem u8_toNat (n : Nat) (h : n < 256) : (UInt8.ofNat n).toNat = n := by simp [UInt8.toNat_ofNat']; omega
set_option maxHeartbeats 2000000 in
theorem text_any (l : List UInt8) (hl : l.length ≤ 1000000000) (w : World) :
    Calls Tryd.prog 15 #[.string ⟨l.toArray⟩] w fun e w' => e = .returned (.tuple #[.string ⟨((textC l).getD []).toArray⟩, .bool (textC l).isSome]) ∧ Below w.heap.size w w' := by
  by_cases h0 : l = [37]
  · subst h0
    go_enter Tryd.func15, Tryd.ntmps15
    go_wp2
    go_ret2
    exact ⟨rfl, Below.refl _ _⟩
  · have hne : (l == [37]) = false := beq_eq_false_iff_ne.2 h0
    have HT : Hid (textC l = match decR l with | some t => if l ≠ [] ∧ cellR t = l then some t else none | none => none) := Lib.hid (by unfold textC; rw [if_neg h0]; cases decR l <;> rfl)
    go_enter Tryd.func15, Tryd.ntmps15
    go_wp2
    have HB0 := Lib.hid (show Bld (w.heap.size + 1) w.heap.size [] (w.alloc (.cells #[.pointer none, .slice none 0 0] 48)) from
      Bld.fresh (heap_at _ _ _ rfl) (by omega) (by simp))
    have HW0 := Lib.hid (show Below w.heap.size w (w.alloc (.cells #[.pointer none, .slice none 0 0] 48)) from (Below.refl _ _).alloc (Nat.le_refl _) _)
    go_loopw [5] (fun i wr => ∃ (k : Nat) (acc : List UInt8), k ≤ l.length ∧ i = .int .i64 k ∧ Hid (acc.length ≤ k ∧ decR l = (decR (l.drop k)).map (acc ++ ·)) ∧ Hid (Bld (w.heap.size + 1) w.heap.size acc wr) ∧ Hid (Below w.heap.size w wr)) (fun i _ => l.length - (intOf i).toNat)
    case atStart => exact ⟨0, [], Nat.zero_le _, rfl, Lib.hid ⟨Nat.le_refl _, by simp⟩, HB0, HW0⟩
    case round =>
      obtain ⟨k, acc, hk, rfl, HI, HB, HW⟩ := hrel
      by_cases hlt : k < l.length
      · obtain ⟨c, hc⟩ : ∃ c, c = l[k] := ⟨_, rfl⟩
        have i0 := fun W => str_index l k c hlt hc W
        have HD := Lib.hid (show l.drop k = c :: l.drop (k + 1) by rw [List.drop_eq_getElem_cons hlt, hc])
        have hal := HI.out.1
        clear hc
        have h37 : ((c.toNat : Int) != 37) = !(decide (c = 37)) := by
          rw [Bool.eq_iff_iff]
          simp only [bne_iff_ne, ne_eq, Bool.not_eq_true', decide_eq_false_iff_not]
          constructor
          · intro h e; subst e; exact h rfl
          · intro h e; exact h (UInt8.toNat_inj.1 (by show c.toNat = 37; omega))
        by_cases hc : c = 37
        · rw [decide_eq_true hc] at h37
          have HC := Lib.hid hc
          clear hc
          by_cases hsh : l.length ≤ k + 2
          · have hg : (l.length : Int) ≤ (k : Int) + 2 := by omega
            have HN := Lib.hid (show textC l = none by
              rw [HT.out, HI.out.2, HD.out, HC.out, dec_short _ (by rw [List.length_drop]; omega)]; rfl)
            go_wp2
            go_ret2
            rw [HN.out]
            exact ⟨rfl, HW.out⟩
          · have hg : ¬ (l.length : Int) ≤ (k : Int) + 2 := by omega
            obtain ⟨c1, hc1⟩ : ∃ c1, c1 = l[k + 1]'(by omega) := ⟨_, rfl⟩
            obtain ⟨c2, hc2⟩ : ∃ c2, c2 = l[k + 2]'(by omega) := ⟨_, rfl⟩
            have i1 := fun W => str_index l (k + 1) c1 (by omega) hc1 W
            have i2 := fun W => str_index l (k + 2) c2 (by omega) hc2 W
            rw [show ((k + 1 : Nat) : Int) = (k : Int) + 1 from rfl] at i1
            rw [show ((k + 2 : Nat) : Int) = (k : Int) + 2 from rfl] at i2
            have hw1 : IntKind.i64.wrap ((k : Int) + 1) = (k : Int) + 1 := IntWalk.i64_in _ (by omega)
            have hw2 : IntKind.i64.wrap ((k : Int) + 2) = (k : Int) + 2 := IntWalk.i64_in _ (by omega)
            have HD2 := Lib.hid (show l.drop (k + 1) = c1 :: c2 :: l.drop (k + 2 + 1) by
              rw [List.drop_eq_getElem_cons (by omega : k + 1 < l.length), List.drop_eq_getElem_cons (by omega : k + 1 + 1 < l.length), hc1, hc2])
            clear hc1 hc2
            obtain ⟨n1, hn1⟩ : ∃ n1, n1 = Lib.indexByte capsL c1 := ⟨_, rfl⟩
            obtain ⟨n2, hn2⟩ : ∃ n2, n2 = Lib.indexByte capsL c2 := ⟨_, rfl⟩
            have b1 := caps_lt c1
            have b2 := caps_lt c2
            have HX1 := Lib.hid (fun W => index_caps c1 W)
            have HX2 := Lib.hid (fun W => index_caps c2 W)
            rw [← hn1] at b1 HX1
            rw [← hn2] at b2 HX2
            have HN1 := Lib.hid hn1
            have HN2 := Lib.hid hn2
            clear hn1 hn2
            by_cases hbad : n1 < 0 ∨ n2 < 0
            · have HN := Lib.hid (show textC l = none by
                rw [HT.out, HI.out.2, HD.out, HC.out, HD2.out, dec_bad _ _ _ (by rw [← HN1.out, ← HN2.out]; exact hbad)]; rfl)
              by_cases hx : n1 < 0
              · clear hbad
                go_wp2
                go_quiet ((go_at_call 27; first | exact Calls.quiet_of_same (HX1.out _) | exact Calls.quiet_of_same (HX2.out _)))
                clear i1 i2 hw1 hw2
                go_wp2
                go_ret2
                rw [HN.out]
                exact ⟨rfl, Go.below_drewN HW.out _⟩
              · have hy : n2 < 0 := by omega
                clear hbad
                go_wp2
                go_quiet ((go_at_call 27; first | exact Calls.quiet_of_same (HX1.out _) | exact Calls.quiet_of_same (HX2.out _)))
                clear i1 i2 hw1 hw2
                go_wp2
                go_ret2
                rw [HN.out]
                exact ⟨rfl, Go.below_drewN HW.out _⟩
            · obtain ⟨m1, rfl⟩ : ∃ m1 : Nat, n1 = m1 := ⟨n1.toNat, by omega⟩
              obtain ⟨m2, rfl⟩ : ∃ m2 : Nat, n2 = m2 := ⟨n2.toNat, by omega⟩
              obtain ⟨n, hn⟩ : ∃ n, n = m1 * 16 + m2 := ⟨_, rfl⟩
              have hn256 : n < 256 := by omega
              have ho := or_shl m1 (by omega) m2 (by omega)
              rw [← hn] at ho
              have HWB := Lib.hid (fun W hB hlen => by have h := writeByte_b (w.heap.size + 1) w.heap.size acc (UInt8.ofNat n) W hB hlen; rw [u8_toNat n hn256] at h; exact h)
              have HDC := Lib.hid (show decR (l.drop k) = (decR (l.drop (k + 2 + 1))).map (UInt8.ofNat n :: ·) by
                rw [HD.out, HC.out, HD2.out, dec_mark _ _ _ (by rw [← HN1.out]; omega) (by rw [← HN2.out]; omega), ← HN1.out, ← HN2.out, Int.toNat_natCast, Int.toNat_natCast, ← hn])
              have hz1 : ¬ ((m1 : Int) < 0) := by omega
              have hz2 : ¬ ((m2 : Int) < 0) := by omega
              clear hbad hn
              go_wp2
              go_quiet ((go_at_call 27; first | exact Calls.quiet_of_same (HX1.out _) | exact Calls.quiet_of_same (HX2.out _)))
              clear i1 i2 hw1 hw2
              have hsz2 := HB.out.2.1
              go_wp2_with (first | (go_at_call 26; refine (HWB.out _ (HB.out.below (Go.below_drewN (Below.refl _ _) _)) (by omega)).mono ?_; rintro e w2 ⟨rfl, hb2, hk2⟩; have HB2 := Lib.hid hb2; have HK2 := Lib.hid ((KeepB.of_below (Go.below_drewN (Below.refl wr.heap.size wr) nq) hsz2).trans hk2); clear hb2 hk2))
              go_roundw
              case rel =>
                refine ⟨k + 3, acc ++ [UInt8.ofNat n], by omega, by go_num, Lib.hid ⟨by simp; omega, ?_⟩, HB2, Lib.hid (HW.out.trans (HK2.out.below (Nat.le_refl _) (by omega)))⟩
                rw [HI.out.2, HDC.out, Option.map_map]
                congr 1
                funext t; simp
              case measure => simp [intOf]; omega
        · rw [decide_eq_false hc] at h37
          have HC := Lib.hid hc
          clear hc
          go_wp2_with (first
            | (go_at_call 26; refine (writeByte_b (w.heap.size + 1) w.heap.size _ c _ HB.out (by omega)).mono ?_; rintro e w2 ⟨rfl, hb2, hk2⟩; have HB2 := Lib.hid hb2; have HK2 := Lib.hid hk2; clear hb2 hk2))
          go_roundw
          case rel =>
            refine ⟨k + 1, acc ++ [c], by omega, by go_num, Lib.hid ⟨by simp; omega, ?_⟩, HB2, Lib.hid (HW.out.trans (HK2.out.below (Nat.le_refl _) (by omega)))⟩
            rw [HI.out.2, HD.out, dec_plain c _ HC.out, Option.map_map]
            congr 1
            funext t; simp
          case measure => simp [intOf]; omega
      · obtain rfl : k = l.length := by omega
        have hdec : decR l = some acc := by rw [HI.out.2, List.drop_length]; simp [decR]
        have HDE := Lib.hid hdec
        have hal := HI.out.1
        clear hdec
        by_cases hl0 : l = []
        · subst hl0
          have HN := Lib.hid text_nil
          go_wp2_with (first | (go_at_call 23; refine (string_b (w.heap.size + 1) w.heap.size _ _ HB.out).mono ?_; rintro e w2 ⟨rfl, hb2⟩; have HB2 := Lib.hid hb2; clear hb2))
          go_ret2
          rw [HN.out]
          exact ⟨rfl, HW.out.trans HB2.out⟩
        · have hn0 : l.isEmpty = false := Bool.eq_false_iff.2 (fun h => hl0 (List.isEmpty_iff.1 h))
          have hn1 : (l == []) = false := beq_eq_false_iff_ne.2 hl0
          have hn2 : (l != []) = true := by rw [bne_iff_ne]; exact hl0
          have HL0 := Lib.hid hl0
          clear hl0
          by_cases heq : cellR acc = l
          · have he1 : (cellR acc == l) = true := beq_iff_eq.2 heq
            have HE := Lib.hid heq
            clear heq
            go_wp2_with (first
              | (go_at_call 23; refine (string_b (w.heap.size + 1) w.heap.size _ _ HB.out).mono ?_; rintro e w2 ⟨rfl, hb2⟩; have HB2 := Lib.hid hb2; clear hb2)
              | (go_at_call 16; refine (cell_any acc (by omega) _).mono ?_; rintro e w3 ⟨rfl, hb3⟩; have HB3 := Lib.hid hb3; clear hb3))
            go_ret2
            have hT : textC l = some acc := by rw [HT.out, HDE.out]; exact if_pos ⟨HL0.out, HE.out⟩
            rw [hT]
            exact ⟨rfl, (HW.out.trans HB2.out).trans (HB3.out.mono (by have := HB2.out.size; have := HW.out.size; omega))⟩
          · have he1 : (cellR acc == l) = false := beq_eq_false_iff_ne.2 heq
            have HE := Lib.hid heq
            clear heq
            go_wp2_with (first
              | (go_at_call 23; refine (string_b (w.heap.size + 1) w.heap.size _ _ HB.out).mono ?_; rintro e w2 ⟨rfl, hb2⟩; have HB2 := Lib.hid hb2; clear hb2)
              | (go_at_call 16; refine (cell_any acc (by omega) _).mono ?_; rintro e w3 ⟨rfl, hb3⟩; have HB3 := Lib.hid hb3; clear hb3))
            go_ret2
            have hT : textC l = none := by rw [HT.out, HDE.out]; exact if_neg (fun h => HE.out h.2)
            rw [hT]
            exact ⟨rfl, (HW.out.trans HB2.out).trans (HB3.out.mono (by have := HB2.out.size; have := HW.out.size; omega))⟩
end Go.Proofs.YtipnoeffahnfaaaDoor

/- Contracts over this translation, plans' models: clean. -/
import Derived.Test.YtkbamfiokhmpjaaDoorXKdx0
import Derived.Test.YtkbamfiokhmpjaaDoorBridge
import Derived.OwnWalk
import Derived.Laws.DeepStrings4
import Derived.WalkSpells
import Derived.Laws.BitsLemmas
import Derived.Deep.RegionHeld3
namespace Go.Proofs.YtkbamfiokhmpjaaDoor
set_option linter.unusedVariables false
set_option linter.unusedSimpArgs false
open Go.RowKit Go.Proofs.YtkbamfiokhmpjaaDoorX.Kd Go.Proofs.YtkbamfiokhmpjaaDoorW.PrintWords Go.Proofs.YtkbamfiokhmpjaaDoorW.PrintLast Go.Proofs.YtkbamfiokhmpjaaDoorW.PrintMore
attribute [local go_sem] max2_int min2_int max_two min_two

theorem pA_.{u} : type_of% @List.setIfInBounds_toArray.{u} := @List.setIfInBounds_toArray.{u}
theorem pB_.{u} : type_of% @List.set_cons_zero.{u} := @List.set_cons_zero.{u}
theorem pC_.{u} : type_of% @List.set_cons_succ.{u} := @List.set_cons_succ.{u}
theorem gA_.{u} : type_of% @List.getElem?_toArray.{u} := @List.getElem?_toArray.{u}
theorem gB_.{u} : type_of% @List.getElem?_cons_succ.{u} := @List.getElem?_cons_succ.{u}
theorem gC_.{u} : type_of% @List.getElem?_cons_zero.{u} := @List.getElem?_cons_zero.{u}
/-- A plan's name without its bytes of nought, and not too long. -/
def cleanL (l : List UInt8) : List UInt8 := (l.take 20).filter (fun c => c.toNat != 0)
theorem clean_snoc (l : List UInt8) (k : Nat) (h : k < l.length) (h2 : k < 20) : (l.take (k + 1)).filter (fun c => c.toNat != 0) = (l.take k).filter (fun c => c.toNat != 0) ++ (if l[k].toNat != 0 then [l[k]] else []) := by
  rw [List.take_succ_eq_append_getElem h, List.filter_append]
  congr 1
  rw [List.filter_cons]; rfl
theorem str_index (l : List UInt8) (k : Nat) (c : UInt8) (h : k < l.length) (hc : c = l[k]) (W : World) : (Instr.index 9 (.string ⟨l.toArray⟩) (.int .i64 (k : Int))).run Tryd.prog W = .ok (.int .u8 (c.toNat : Int)) W := by
  rw [run_index_string W 9 ⟨l.toArray⟩ .i64 k Tryd.underlying9, hc]
  have h3 : (0 : Int) ≤ (k : Int) ∧ (k : Int) < ((⟨l.toArray⟩ : ByteArray).size : Int) := ⟨by omega, by show (k : Int) < (l.length : Int); omega⟩
  rw [dif_pos h3]
  rfl
theorem cat_end (l : List UInt8) (b : UInt8) : (⟨l.toArray⟩ : ByteArray) ++ (⟨#[b]⟩ : ByteArray) = ⟨(l ++ [b]).toArray⟩ := by
  apply ByteArray.ext; rw [ByteArray.data_append]; apply Array.ext'; simp
set_option maxRecDepth 100000 in
set_option maxHeartbeats 1000000 in
theorem clean_any (l : List UInt8) (hl : l.length ≤ 9223372036854775807) (w : World) :
    Calls Tryd.prog 26 #[.string ⟨l.toArray⟩] w fun e w' => e = .returned (.string ⟨(cleanL l).toArray⟩) ∧ w' = w := by
  go_enter Tryd.func26, Tryd.ntmps26
  go_wp2
  go_loopw [3, 4] (fun o i wr => ∃ k : Nat, k ≤ l.length ∧ k ≤ 20 ∧ i = .int .i64 k ∧ o = .string ⟨((l.take k).filter (fun c => c.toNat != 0)).toArray⟩ ∧ wr = w) (fun _ i _ => 20 - (intOf i).toNat)
  case atStart => exact ⟨0, Nat.zero_le _, Nat.zero_le _, rfl, rfl, rfl⟩
  case round =>
    obtain ⟨k, hk1, hk8, rfl, rfl, rfl⟩ := hrel
    by_cases hlt : k < l.length ∧ k < 20
    · obtain ⟨hl1, hl2⟩ := hlt
      have HS := Lib.hid (clean_snoc l k hl1 hl2)
      obtain ⟨o, ho⟩ : ∃ o, o = (l.take k).filter (fun c => c.toNat != 0) := ⟨_, rfl⟩
      have hol : o.length ≤ 20 := by rw [ho]; exact Nat.le_trans (List.length_filter_le _ _) (by rw [List.length_take]; omega)
      rw [← ho] at HS ⊢
      obtain ⟨c, hc⟩ : ∃ c, c = l[k] := ⟨_, rfl⟩
      have i0 := fun W => str_index l k c hl1 hc W
      have he : (⟨l.toArray⟩ : ByteArray).extract k (k + 1) = ⟨#[c]⟩ := by
        rw [ext_list, List.drop_eq_getElem_cons hl1, show k + 1 - k = 1 by omega, hc]; rfl
      have hc9 := cat_end o c
      rw [← hc] at HS
      clear hc ho
      by_cases hz : c.toNat = 0
      · have g0 : ((c.toNat : Int) != 0) = false := by rw [hz]; rfl
        have HE := Lib.hid (show (if c.toNat != 0 then [c] else []) = ([] : List UInt8) by rw [hz]; rfl)
        clear hz
        go_wp2
        go_roundw
        case rel => exact ⟨k + 1, by omega, by omega, by go_num, by rw [HS.out, HE.out, List.append_nil], by trivial⟩
        case measure => simp [intOf]; omega
      · have g0 : ((c.toNat : Int) != 0) = true := by rw [bne_iff_ne]; omega
        have HE := Lib.hid (show (if c.toNat != 0 then [c] else []) = [c] by rw [if_pos (by simpa using hz)])
        clear hz
        go_wp2
        go_roundw
        case rel => exact ⟨k + 1, by omega, by omega, by go_num, by rw [HS.out, HE.out], by trivial⟩
        case measure => simp [intOf]; omega
    · have hT : l.take k = l.take 20 := by
        by_cases h : k = 20
        · rw [h]
        · rw [List.take_of_length_le (by omega), List.take_of_length_le (by omega)]
      rw [hT]
      by_cases h : k < l.length
      · have h2 : ¬ k < 20 := by omega
        go_wp2
        go_ret
        exact ⟨rfl, rfl⟩
      · go_wp2
        go_ret
        exact ⟨rfl, rfl⟩
end Go.Proofs.YtkbamfiokhmpjaaDoor

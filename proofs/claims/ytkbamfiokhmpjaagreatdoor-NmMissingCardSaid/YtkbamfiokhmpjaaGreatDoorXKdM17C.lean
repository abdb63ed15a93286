/- Contracts over this translation, plans' models: clean. -/
import Derived.Test.YtkbamfiokhmpjaaGreatDoorXKdx0
import Derived.Test.YtkbamfiokhmpjaaGreatDoorBridge
import Derived.OwnWalk
import Derived.Laws.DeepStrings4
import Derived.WalkSpells
import Derived.Laws.BitsLemmas
import Derived.Deep.RegionHeld3
import Derived.Deep.DeepCutAuto
import Derived.Deep.CutRange
namespace Go.Proofs.YtkbamfiokhmpjaaGreatDoor
set_option linter.unusedVariables false
set_option linter.unusedSimpArgs false
open Go.RowKit Go.Proofs.YtkbamfiokhmpjaaGreatDoorX.Kd Go.Proofs.YtkbamfiokhmpjaaGreatDoorW.PrintWords Go.Proofs.YtkbamfiokhmpjaaGreatDoorW.PrintLast Go.Proofs.YtkbamfiokhmpjaaGreatDoorW.PrintMore
attribute [local go_sem] max2_int min2_int max_two min_two

theorem pA_.{u} : type_of% @List.setIfInBounds_toArray.{u} := @List.setIfInBounds_toArray.{u}
theorem pB_.{u} : type_of% @List.set_cons_zero.{u} := @List.set_cons_zero.{u}
theorem pC_.{u} : type_of% @List.set_cons_succ.{u} := @List.set_cons_succ.{u}
theorem gA_.{u} : type_of% @List.getElem?_toArray.{u} := @List.getElem?_toArray.{u}
theorem gB_.{u} : type_of% @List.getElem?_cons_succ.{u} := @List.getElem?_cons_succ.{u}
theorem gC_.{u} : type_of% @List.getElem?_cons_zero.{u} := @List.getElem?_cons_zero.{u}
/-- A plan's name without its bytes of nought, and not too long. -/
def cleanL (l : List UInt8) : List UInt8 := (l.take 20).filter (fun c => c.toNat != 0)
theorem clean_snoc (l : List UInt8) (k : Nat) (h : k < l.length) (h2 : k < 20) : (l.take (k + 1)).filter (fun c => c.toNat != 0) = (l.take k).filter (fun c => c.toNat != 0) ++ (if l[k].toNat != 0 then [l[k]] else []) := by
  rw [List.take_succ_eq_append_getElem h, List.filter_append]
  congr 1
  rw [List.filter_cons]; rfl
theorem str_index (l : List UInt8) (k : Nat) (c : UInt8) (h : k < l.length) (hc : c = l[k]) (W : World) : (Instr.index 9 (.string ⟨l.toArray⟩) (.int .i64 (k : Int))).run Tryz.prog W = .ok (.int .u8 (c.toNat : Int)) W := by
  rw [run_index_string W 9 ⟨l.toArray⟩ .i64 k Tryz.underlying9, hc]
  have h3 : (0 : Int) ≤ (k : Int) ∧ (k : Int) < ((⟨l.toArray⟩ : ByteArray).size : Int) := ⟨by omega, by show (k : Int) < (l.length : Int); omega⟩
  rw [dif_pos h3]
  rfl
theorem cat_end (l : List UInt8) (b : UInt8) : (⟨l.toArray⟩ : ByteArray) ++ (⟨#[b]⟩ : ByteArray) = ⟨(l ++ [b]).toArray⟩ := by
  apply ByteArray.ext; rw [ByteArray.data_append]; apply Array.ext'; simp
set_option maxRecDepth 100000 in
set_option maxHeartbeats 1000000 in
theorem clean_any (l : List UInt8) (hl : l.length ≤ 9223372036854775807) (w : World) :
    Calls Tryz.prog 24 #[.string ⟨l.toArray⟩] w fun e w' => e = .returned (.string ⟨(cleanL l).toArray⟩) ∧ w' = w := by
  go_enter Tryz.func24, Tryz.ntmps24
  go_wp2
  go_loopw [3, 4] (fun o i wr => ∃ k : Nat, k ≤ l.length ∧ k ≤ 20 ∧ i = .int .i64 k ∧ o = .string ⟨((l.take k).filter (fun c => c.toNat != 0)).toArray⟩ ∧ wr = w) (fun _ i _ => 20 - (intOf i).toNat)
  case atStart => exact ⟨0, Nat.zero_le _, Nat.zero_le _, rfl, rfl, rfl⟩
  case round =>
    obtain ⟨k, hk1, hk8, rfl, rfl, rfl⟩ := hrel
    by_cases hlt : k < l.length ∧ k < 20
    · obtain ⟨hl1, hl2⟩ := hlt
      have HS := Lib.hid (clean_snoc l k hl1 hl2)
      obtain ⟨o, ho⟩ : ∃ o, o = (l.take k).filter (fun c => c.toNat != 0) := ⟨_, rfl⟩
      have hol : o.length ≤ 20 := by rw [ho]; exact Nat.le_trans (List.length_filter_le _ _) (by rw [List.length_take]; omega)
      rw [← ho] at HS ⊢
      obtain ⟨c, hc⟩ : ∃ c, c = l[k] := ⟨_, rfl⟩
      have i0 := fun W => str_index l k c hl1 hc W
      have he : (⟨l.toArray⟩ : ByteArray).extract k (k + 1) = ⟨#[c]⟩ := by
        rw [ext_list, List.drop_eq_getElem_cons hl1, show k + 1 - k = 1 by omega, hc]; rfl
      have hc9 := cat_end o c
      rw [← hc] at HS
      clear hc ho
      by_cases hz : c.toNat = 0
      · have g0 : ((c.toNat : Int) != 0) = false := by rw [hz]; rfl
        have HE := Lib.hid (show (if c.toNat != 0 then [c] else []) = ([] : List UInt8) by rw [hz]; rfl)
        clear hz
        go_wp2
        go_roundw
        case rel => exact ⟨k + 1, by omega, by omega, by go_num, by rw [HS.out, HE.out, List.append_nil], by trivial⟩
        case measure => simp [intOf]; omega
      · have g0 : ((c.toNat : Int) != 0) = true := by rw [bne_iff_ne]; omega
        have HE := Lib.hid (show (if c.toNat != 0 then [c] else []) = [c] by rw [if_pos (by simpa using hz)])
        clear hz
        go_wp2
        go_roundw
        case rel => exact ⟨k + 1, by omega, by omega, by go_num, by rw [HS.out, HE.out], by trivial⟩
        case measure => simp [intOf]; omega
    · have hT : l.take k = l.take 20 := by
        by_cases h : k = 20
        · rw [h]
        · rw [List.take_of_length_le (by omega), List.take_of_length_le (by omega)]
      rw [hT]
      by_cases h : k < l.length
      · have h2 : ¬ k < 20 := by omega
        go_wp2
        go_ret
        exact ⟨rfl, rfl⟩
      · go_wp2
        go_ret
        exact ⟨rfl, rfl⟩
end Go.Proofs.YtkbamfiokhmpjaaGreatDoor

/- Contracts over this translation, plans' models: sections. -/
namespace Go.Proofs.YtkbamfiokhmpjaaGreatDoor
set_option linter.unusedVariables false
set_option linter.unusedSimpArgs false
open Go.RowKit Go.Proofs.YtkbamfiokhmpjaaGreatDoorX.Kd Go.Proofs.YtkbamfiokhmpjaaGreatDoorW.PrintWords Go.Proofs.YtkbamfiokhmpjaaGreatDoorW.PrintLast Go.Proofs.YtkbamfiokhmpjaaGreatDoorW.PrintMore
attribute [local go_sem] max2_int min2_int max_two min_two

theorem i64_and3 (n : Int) : bits .and .i64 n 3 = n % 4 := by
  have hm : (BitVec.ofInt 64 3).toNat = 2 ^ 2 - 1 := by decide
  have key : (BitVec.ofInt 64 n &&& BitVec.ofInt 64 3).toNat = (n % ((2 ^ 64 : Nat) : Int)).toNat % 2 ^ 2 := by
    rw [BitVec.toNat_and, BitVec.toNat_ofInt, hm, Nat.and_two_pow_sub_one_eq_mod]
  show IntKind.i64.wrap ((BitVec.ofInt 64 n &&& BitVec.ofInt 64 3).toNat : Nat) = n % 4
  rw [key, IntKind.wrap_i64]
  omega
def cleanB (s : ByteArray) : ByteArray := ⟨(cleanL s.data.toList).toArray⟩
def kindL : List Int := [1, 8, 7, 3, 1879048193, 14]
def kindN (x : Int) : Nat := (Int.tmod (Int.tmod x 6 + 6) 6).toNat
/-- A section of a plan, as the document's. -/
def secR (x : S60) : S54 where
  f0 := cleanB x.f0
  f1 := kindL.getD (kindN x.f1) 0
  f2 := IntKind.u64.wrap (bits .and .i64 x.f3 7)
  f3 := IntKind.u64.wrap (bits .and .i64 x.f3 4095)
  f4 := 0
  f5 := 0
  f6 := if bits .and .i64 x.f2 4 = 4 then 0 else IntKind.u64.wrap (2 ^ (bits .and .i64 x.f2 3).toNat)
  f7 := 0
  f8 := if kindL.getD (kindN x.f1) 0 = 8 then (x.f4.size : Int) else 0
  f9 := if kindL.getD (kindN x.f1) 0 = 8 then ⟨#[]⟩ else x.f4.extract 0 (min x.f4.size 50)
  f10 := []
  f11 := []
  f12 := []
def nameS : S54 := { z54 with f0 := ⟨#[46, 110, 97, 109, 101, 115]⟩, f1 := 3 }
def sectionsR (ps : List S60) : List S54 := [z54, nameS] ++ (ps.take 6).map secR
set_option maxRecDepth 100000 in
set_option maxHeartbeats 2000000 in
theorem sections_any (fl : Int) (ps : List S60) (hps : ∀ x ∈ ps, x.f0.size ≤ 9223372036854775807 ∧ x.f4.size ≤ 9223372036854775807) (a : Option Addr) (c : Nat) (v1 v2 v3 : Value) (w : World) (hr : Kd.C k60 w a ps.length ps) :
    Calls Tryz.prog 10 #[.agg #[.int .i64 fl, .slice a ps.length c, v1, v2, v3]] w fun e w' => ∃ v, e = .returned v ∧ Kd.R k54 54 w' w.heap.size (fun _ => True) v (sectionsR ps) ∧ Below w.heap.size w w' := by
  have HR := Lib.hid hr
  clear hr
  go_enter Tryz.func10, Tryz.ntmps10
  go_wp2
  have HO0 : Kd.R k54 54 ((w.alloc (.cells #[.int .i64 fl, .slice a ps.length c, v1, v2, v3] 38)).alloc (.cells #[.string ⟨#[]⟩, .int .u64 0, .int .u64 0, .int .u64 0, .int .u64 0, .int .u64 0, .int .u64 0, .int .u64 0, .int .u64 0, .string ⟨#[]⟩, .slice none 0 0, .slice none 0 0, .slice none 0 0, .string ⟨#[46, 110, 97, 109, 101, 115]⟩, .int .u64 3, .int .u64 0, .int .u64 0, .int .u64 0, .int .u64 0, .int .u64 0, .int .u64 0, .int .u64 0, .string ⟨#[]⟩, .slice none 0 0, .slice none 0 0, .slice none 0 0] 54)) w.heap.size (fun _ => True) (.slice (some ⟨w.heap.size + 1, 0, none⟩) 2 2) [z54, nameS] := by
    have hs : w.heap.size + 1 = (w.alloc (.cells #[.int .i64 fl, .slice a ps.length c, v1, v2, v3] 38)).heap.size := by simp
    refine ⟨fun _ _ => trivial, [.string ⟨#[]⟩, .int .u64 0, .int .u64 0, .int .u64 0, .int .u64 0, .int .u64 0, .int .u64 0, .int .u64 0, .int .u64 0, .string ⟨#[]⟩, .slice none 0 0, .slice none 0 0, .slice none 0 0, .string ⟨#[46, 110, 97, 109, 101, 115]⟩, .int .u64 3, .int .u64 0, .int .u64 0, .int .u64 0, .int .u64 0, .int .u64 0, .int .u64 0, .int .u64 0, .string ⟨#[]⟩, .slice none 0 0, .slice none 0 0, .slice none 0 0], ?_, ?_⟩
    · rw [hs]
      exact World.ownsRow_lit (base := w.heap.size) (e := 54) (size := 13) _ _ 2 (by omega) (by unfold maxLen; omega) rfl
    · refine Reps.front (k54_mkM _ _ _ z54 (Kd.R_nil _ _ _ _ _) (Kd.R_nil _ _ _ _ _) (Kd.R_nil _ _ _ _ _)) rfl (Reps.front (k54_mkM _ _ _ nameS (Kd.R_nil _ _ _ _ _) (Kd.R_nil _ _ _ _ _) (Kd.R_nil _ _ _ _ _)) rfl (Reps.none _ _) rfl) rfl
  have HO1 := Lib.hid HO0
  have HW0 := Lib.hid (show Below w.heap.size w ((w.alloc (.cells #[.int .i64 fl, .slice a ps.length c, v1, v2, v3] 38)).alloc (.cells #[.string ⟨#[]⟩, .int .u64 0, .int .u64 0, .int .u64 0, .int .u64 0, .int .u64 0, .int .u64 0, .int .u64 0, .int .u64 0, .string ⟨#[]⟩, .slice none 0 0, .slice none 0 0, .slice none 0 0, .string ⟨#[46, 110, 97, 109, 101, 115]⟩, .int .u64 3, .int .u64 0, .int .u64 0, .int .u64 0, .int .u64 0, .int .u64 0, .int .u64 0, .int .u64 0, .string ⟨#[]⟩, .slice none 0 0, .slice none 0 0, .slice none 0 0] 54)) from ((Below.refl _ _).alloc (Nat.le_refl _) _).alloc (by simp) _)
  clear HO0
  go_loopw [3, 4] (fun o i wr => ∃ k : Nat, k ≤ ps.length ∧ k ≤ 6 ∧ i = .int .i64 k ∧ Hid (Kd.R k54 54 wr w.heap.size (fun _ => True) o ([z54, nameS] ++ (ps.take k).map secR)) ∧ Hid (Below w.heap.size w wr) ∧ Hid (wr.heap[w.heap.size]? = some (.cells #[.int .i64 fl, .slice a ps.length c, v1, v2, v3] 38 (0, 0)))) (fun _ i _ => 6 - (intOf i).toNat)
  case atStart => exact ⟨0, Nat.zero_le _, Nat.zero_le _, rfl, HO1, HW0, Lib.hid (blk_alloc (blk_new w _) _)⟩
  case round =>
    obtain ⟨k, hk1, hk6, rfl, HO, HB, HP⟩ := hrel
    have q1 : wr.cell? ⟨w.heap.size, 1, none⟩ = some (.slice a ps.length c) := (blk_cell HP.out 1).trans rfl
    by_cases hlt : k < ps.length ∧ k < 6
    · obtain ⟨hl1, hl2⟩ := hlt
      obtain ⟨ad, hA, p0, p1, p2, p3, p4⟩ := at_T60 (Kd.C_below HR.out HB.out) (k : Int) (by omega) (by omega)
      subst hA
      rw [Int.toNat_natCast] at p0 p1 p2 p3 p4
      have HX := Lib.hid (show rd_T60 ps (k : Int) = ps[k] by unfold rd_T60; rw [Int.toNat_natCast]; simp [List.getD, hl1])
      have hx := hps ps[k] (List.getElem_mem hl1)
      rw [← HX.out] at hx
      obtain ⟨x, hxe⟩ : ∃ x, x = rd_T60 ps (k : Int) := ⟨_, rfl⟩
      rw [← hxe] at HX p0 p1 p2 p3 p4 hx
      clear hxe
      have HCL := Lib.hid (fun W => clean_any x.f0.data.toList (by rw [Array.length_toList]; exact hx.1) W)
      have hb0 : (⟨x.f0.data.toList.toArray⟩ : ByteArray) = x.f0 := by cases x.f0; simp
      rw [hb0] at HCL
      clear hb0
      obtain ⟨r1, hr1⟩ : ∃ r1, r1 = Int.tmod x.f1 6 := ⟨_, rfl⟩
      have hr1b : -6 < r1 ∧ r1 < 6 := by rw [hr1]; exact ⟨by have := Int.lt_tmod_of_pos x.f1 (show (0:Int) < 6 by decide); omega, by have := Int.tmod_lt_of_pos x.f1 (show (0:Int) < 6 by decide); omega⟩
      obtain ⟨q, hq⟩ : ∃ q : Nat, (q : Int) = Int.tmod (r1 + 6) 6 := ⟨(Int.tmod (r1 + 6) 6).toNat, by
        have := Int.tmod_nonneg 6 (show 0 ≤ r1 + 6 by omega); omega⟩
      have hq6 : q < 6 := by have := Int.tmod_lt_of_pos (r1 + 6) (show (0:Int) < 6 by decide); omega
      have HQ := Lib.hid (show kindN x.f1 = q by unfold kindN; rw [← hr1, ← hq, Int.toNat_natCast])
      have t1 : Int.tmod x.f1 6 = r1 := hr1.symm
      have t2 : Int.tmod (r1 + 6) 6 = (q : Int) := hq.symm
      have t3 : IntKind.i64.wrap r1 = r1 := by rw [IntKind.wrap_i64]; omega
      have t4 : IntKind.i64.wrap (r1 + 6) = r1 + 6 := by rw [IntKind.wrap_i64]; omega
      have t5 : IntKind.i64.wrap (q : Int) = (q : Int) := by rw [IntKind.wrap_i64]; omega
      clear hr1 hq
      have t6 : (0 : Int) ≤ (q : Int) := by omega
      have t7 : (q : Int) < 6 := by omega
      have t8 : (0 : Int) ≤ bits .and .i64 x.f2 3 := by rw [i64_and3]; omega
      have t9 : bits .and .i64 x.f2 3 ≤ 64 := by rw [i64_and3]; omega
      go_wp2
      obtain ⟨kq, hkq⟩ : ∃ kq, kq = kindL.getD q 0 := ⟨_, rfl⟩
      have HKQ := Lib.hid hkq
      have HXK := Lib.hid (show ∀ W, Below ((wr.alloc (.cells #[.string x.f0, .int .i64 x.f1, .int .i64 x.f2, .int .i64 x.f3, .string x.f4] 60)).alloc (.cells #[.int .u64 1, .int .u64 8, .int .u64 7, .int .u64 3, .int .u64 1879048193, .int .u64 14] 27)).heap.size ((wr.alloc (.cells #[.string x.f0, .int .i64 x.f1, .int .i64 x.f2, .int .i64 x.f3, .string x.f4] 60)).alloc (.cells #[.int .u64 1, .int .u64 8, .int .u64 7, .int .u64 3, .int .u64 1879048193, .int .u64 14] 27)) W → W.cell? ⟨wr.heap.size, 0, none⟩ = some (.string x.f0) ∧ W.cell? ⟨wr.heap.size, 1, none⟩ = some (.int .i64 x.f1) ∧ W.cell? ⟨wr.heap.size, 2, none⟩ = some (.int .i64 x.f2) ∧ W.cell? ⟨wr.heap.size, 3, none⟩ = some (.int .i64 x.f3) ∧ W.cell? ⟨wr.heap.size + 1, q, none⟩ = some (.int .u64 kq) from fun W hb => by
        have hx0 := blk_below (blk_alloc (blk_new wr (.cells #[.string x.f0, .int .i64 x.f1, .int .i64 x.f2, .int .i64 x.f3, .string x.f4] 60)) (.cells #[.int .u64 1, .int .u64 8, .int .u64 7, .int .u64 3, .int .u64 1879048193, .int .u64 14] 27)) hb
        have hk0 := blk_below (blk_new (wr.alloc (.cells #[.string x.f0, .int .i64 x.f1, .int .i64 x.f2, .int .i64 x.f3, .string x.f4] 60)) (.cells #[.int .u64 1, .int .u64 8, .int .u64 7, .int .u64 3, .int .u64 1879048193, .int .u64 14] 27)) hb
        rw [World.size_alloc] at hk0
        refine ⟨blk_cell hx0 0, blk_cell hx0 1, blk_cell hx0 2, blk_cell hx0 3, (blk_cell hk0 q).trans ?_⟩
        rw [hkq]
        rcases (by omega : q = 0 ∨ q = 1 ∨ q = 2 ∨ q = 3 ∨ q = 4 ∨ q = 5) with rfl | rfl | rfl | rfl | rfl | rfl <;> rfl)
      clear hkq
      have HX4 := Lib.hid (show ∀ W, Below ((wr.alloc (.cells #[.string x.f0, .int .i64 x.f1, .int .i64 x.f2, .int .i64 x.f3, .string x.f4] 60)).alloc (.cells #[.int .u64 1, .int .u64 8, .int .u64 7, .int .u64 3, .int .u64 1879048193, .int .u64 14] 27)).heap.size ((wr.alloc (.cells #[.string x.f0, .int .i64 x.f1, .int .i64 x.f2, .int .i64 x.f3, .string x.f4] 60)).alloc (.cells #[.int .u64 1, .int .u64 8, .int .u64 7, .int .u64 3, .int .u64 1879048193, .int .u64 14] 27)) W → W.heap[wr.heap.size]? = some (.cells #[.string x.f0, .int .i64 x.f1, .int .i64 x.f2, .int .i64 x.f3, .string x.f4] 60 (0, 0)) from fun W hb =>
        blk_below (blk_alloc (blk_new wr (.cells #[.string x.f0, .int .i64 x.f1, .int .i64 x.f2, .int .i64 x.f3, .string x.f4] 60)) (.cells #[.int .u64 1, .int .u64 8, .int .u64 7, .int .u64 3, .int .u64 1879048193, .int .u64 14] 27)) hb)
      have hwrX : wr.heap.size < ((wr.alloc (.cells #[.string x.f0, .int .i64 x.f1, .int .i64 x.f2, .int .i64 x.f3, .string x.f4] 60)).alloc (.cells #[.int .u64 1, .int .u64 8, .int .u64 7, .int .u64 3, .int .u64 1879048193, .int .u64 14] 27)).heap.size := by simp; omega
      obtain ⟨wX, hwX⟩ : ∃ wX, wX = (wr.alloc (.cells #[.string x.f0, .int .i64 x.f1, .int .i64 x.f2, .int .i64 x.f3, .string x.f4] 60)).alloc (.cells #[.int .u64 1, .int .u64 8, .int .u64 7, .int .u64 3, .int .u64 1879048193, .int .u64 14] 27) := ⟨_, rfl⟩
      have HBX := Lib.hid (show Below w.heap.size w wX by rw [hwX]; exact (HB.out.alloc HB.out.size _).alloc (Nat.le_trans HB.out.size (by simp)) _)
      have HOX := Lib.hid (show Kd.R k54 54 wX w.heap.size (fun _ => True) u3 ([z54, nameS] ++ (ps.take k).map secR) by rw [hwX]; exact Kd.R_alloc (Kd.R_alloc HO.out _) _)
      have HPX := Lib.hid (show wX.heap[w.heap.size]? = some (.cells #[.int .i64 fl, .slice (some ad) ps.length c, v1, v2, v3] 38 (0, 0)) by rw [hwX]; exact blk_alloc (blk_alloc HP.out _) _)
      rw [← hwX] at HXK HX4 hwrX ⊢
      have hwX0 : w.heap.size < wX.heap.size := Nat.lt_of_le_of_lt HB.out.size hwrX
      clear hwX HO HB HP q1 p0 p1 p2 p3 p4
      go_region_held3 (fun w' => w'.cell? ⟨wr.heap.size, 0, none⟩ = some (.string x.f0) ∧ w'.cell? ⟨wr.heap.size, 1, none⟩ = some (.int .i64 x.f1) ∧ w'.cell? ⟨wr.heap.size, 2, none⟩ = some (.int .i64 x.f2) ∧ w'.cell? ⟨wr.heap.size, 3, none⟩ = some (.int .i64 x.f3) ∧ w'.cell? ⟨wr.heap.size + 1, q, none⟩ = some (.int .u64 kq))
        (first | exact HXK.out _ (Go.below_drewN (Below.refl _ _) 1) | exact HXK.out _ (Below.refl _ _) | exact HXK.out _ ((Go.below_drewN (Below.refl _ _) 1).alloc (Nat.le_refl _) _) | exact HXK.out _ ((Below.refl _ _).alloc (Nat.le_refl _) _))
        (first | (go_at_call 24; refine (HCL.out _).mono ?_; rintro e w4 ⟨rfl, rfl⟩))
      all_goals (
        obtain ⟨al, hal⟩ : ∃ al, al = IntKind.u64.wrap (2 ^ (bits .and .i64 x.f2 3).toNat) := ⟨_, rfl⟩
        obtain ⟨nm, hnm⟩ : ∃ nm : ByteArray, nm = ⟨(cleanL x.f0.data.toList).toArray⟩ := ⟨_, rfl⟩
        obtain ⟨f2, hf2⟩ : ∃ f2, f2 = IntKind.u64.wrap (bits .and .i64 x.f3 7) := ⟨_, rfl⟩
        obtain ⟨f3, hf3⟩ : ∃ f3, f3 = IntKind.u64.wrap (bits .and .i64 x.f3 4095) := ⟨_, rfl⟩
        rw [← hal, ← hnm, ← hf2, ← hf3]
        obtain ⟨w5, hw5⟩ : ∃ w5, w5 = (wX.alloc (.cells #[.string nm, .int .u64 kq, .int .u64 f2, .int .u64 f3, .int .u64 0, .int .u64 0, .int .u64 al, .int .u64 0, .int .u64 0, .string ⟨#[]⟩, .slice none 0 0, .slice none 0 0, .slice none 0 0] 54)).drew := ⟨_, rfl⟩
        have hbx5 : Below wX.heap.size wX w5 := by rw [hw5]; exact Go.below_drewN ((Below.refl _ _).alloc (Nat.le_refl _) _) 1
        have HY := Lib.hid (show w5.heap[wX.heap.size]? = some (.cells #[.string nm, .int .u64 kq, .int .u64 f2, .int .u64 f3, .int .u64 0, .int .u64 0, .int .u64 al, .int .u64 0, .int .u64 0, .string ⟨#[]⟩, .slice none 0 0, .slice none 0 0, .slice none 0 0] 54 (0, 0)) by rw [hw5]; exact blk_new wX _)
        have HO5 := Lib.hid (Kd.R_below (Kd.R_mono (ok' := fun k => k ≠ wX.heap.size) (Kd.R_bound HOX.out) (fun k hk => Nat.ne_of_lt hk.2.2.1)) hbx5)
        obtain ⟨XS, hXS⟩ : ∃ XS, XS = [z54, nameS] ++ (ps.take k).map secR := ⟨_, rfl⟩
        have hXL : (XS.length + 1) * 168 ≤ 140737488355328 := by rw [hXS, List.length_append, List.length_map, List.length_take]; simp only [List.length_cons, List.length_nil]; omega
        rw [← hXS] at HO5
        have HXS := Lib.hid hXS
        clear hXS
        have HB5 := Lib.hid (HBX.out.trans (hbx5.mono HBX.out.size))
        have HP5 := Lib.hid (blk_below HPX.out hbx5)
        have HX5 := Lib.hid (HX4.out w5 hbx5)
        rw [← hw5]
        have hyl : wX.heap.size < w5.heap.size := blk_lt HY.out
        have hbl := HB5.out.size
        have HXB := Lib.hid (show w.heap.size ≤ wX.heap.size from HBX.out.size)
        have HAL := Lib.hid hal
        have HNM := Lib.hid hnm
        have HF2 := Lib.hid hf2
        have HF3 := Lib.hid hf3
        clear hw5 hbx5 HXK HX4 HOX HPX HBX hal hnm hf2 hf3
        have x2 := blk_cell HX5.out 2
        have x4 := blk_cell HX5.out 4
        simp only [List.getElem?_toArray, List.getElem?_cons_succ, List.getElem?_cons_zero] at x2 x4
        have y0 := blk_cell HY.out 0
        have y1 := blk_cell HY.out 1
        have y2 := blk_cell HY.out 2
        have y3 := blk_cell HY.out 3
        have y4 := blk_cell HY.out 4
        have y5 := blk_cell HY.out 5
        have y6 := blk_cell HY.out 6
        have y7 := blk_cell HY.out 7
        have y8 := blk_cell HY.out 8
        have y9 := blk_cell HY.out 9
        have y10 := blk_cell HY.out 10
        have y11 := blk_cell HY.out 11
        have y12 := blk_cell HY.out 12
        simp only [List.getElem?_toArray, List.getElem?_cons_succ, List.getElem?_cons_zero] at y0 y1 y2 y3 y4 y5 y6 y7 y8 y9 y10 y11 y12
        have z6 := blk_frozen HY.out 6
        have z8 := blk_frozen HY.out 8
        have z9 := blk_frozen HY.out 9
        have hne : wr.heap.size ≠ wX.heap.size := Nat.ne_of_lt hwrX
        by_cases h4 : bits .and .i64 x.f2 4 = 4
        · have e4 : (bits .and .i64 x.f2 4 == 4) = true := beq_iff_eq.2 h4
          by_cases h8 : kq = 8
          · have e8 : (kq == 8) = true := beq_iff_eq.2 h8
            have HE8 := Lib.hid h8
            have HE4 := Lib.hid h4
            clear h8 h4
            go_wp2_with (first | (at_builtin; refine Kd.R_append k54 (w0 := w) w.heap.size rfl (.tmp 73) (.tmp 75) 28 54 _ _ rfl Tryz.underlying28 info54 rfl (by decide) (by omega) u3 XS (⟨nm, kq, f2, f3, 0, 0, 0, 0, (x.f4.size : Int), ⟨#[]⟩, [], [], []⟩ : S54) _ (fun k => k ≠ wX.heap.size) (fun _ => False) rfl (by first | rfl | (simp only [World.size_setCell]; rfl) | (simp; done)) (k54_mkM _ _ _ _ (Kd.R_nil _ _ _ _ _) (Kd.R_nil _ _ _ _ _) (Kd.R_nil _ _ _ _ _)) (fun _ h => h.elim) ?aF (by repeat (first | exact HO5.out | refine Kd.R_far ?_ (fun k hk => hk) _)) (by repeat (first | exact HB5.out | refine Below.setCell ?_ HXB.out _)) ?aS ?aL ?_))
            case aF => intro k h; have h2 : w5.heap.size ≤ k := (by first | exact h | (simp only [World.size_setCell] at h; exact h)); exact (Nat.ne_of_lt (Nat.lt_of_lt_of_le hyl h2)).symm
            case aS => first | exact hbl | (simp only [World.size_setCell]; exact hbl)
            case aL => exact hXL
            intro v6 w6 hR6 hB6 hG6 hat6
            have HP6 := Lib.hid (blk_grown (o := .cells #[.int .i64 fl, .slice (some ad) ps.length c, v1, v2, v3] 38 (0, 0)) (by repeat (first | exact HP5.out | refine blk_far ?_ (Nat.ne_of_lt hwX0) _)) hG6 (Kd.R_ne HO5.out HP5.out (by decide)))
            have HR6 := Lib.hid (Kd.R_mono (ok' := fun _ => True) hR6 (fun _ _ => trivial))
            have HB6 := Lib.hid hB6
            clear hR6 hB6 hG6 hat6
            have hsec : secR x = (⟨nm, kq, f2, f3, 0, 0, 0, 0, (x.f4.size : Int), ⟨#[]⟩, [], [], []⟩ : S54) := by
              unfold secR
              rw [HQ.out, ← HKQ.out, ← HF2.out, ← HF3.out, if_pos HE4.out, if_pos HE8.out, if_pos HE8.out]
              rw [HNM.out]; rfl
            clear y0 y1 y2 y3 y4 y5 y6 y7 y8 y9 y10 y11 y12 z6 z8 z9 x2 x4 t1 t2 t3 t4 t5 t8 t9
            go_wp2
            go_roundw
            case rel =>
              refine ⟨k + 1, by omega, by omega, by go_num, Lib.hid ?_, HB6, HP6⟩
              have h := HR6.out
              rw [← hsec, HXS.out, List.append_assoc] at h
              rw [List.take_succ_eq_append_getElem hl1, List.map_append, ← HX.out]
              exact h
            case measure => simp [intOf]; omega
          · have e8 : (kq == 8) = false := beq_eq_false_iff_ne.2 h8
            have HE8 := Lib.hid h8
            have HE4 := Lib.hid h4
            clear h8 h4
            obtain ⟨m5, hm5⟩ : ∃ m5, m5 = min x.f4.size 50 := ⟨_, rfl⟩
            have HM5 := Lib.hid hm5
            have hmn : (if (50 : Int) < (x.f4.size : Int) then (50 : Int) else (x.f4.size : Int)) = (m5 : Int) := by split <;> omega
            have hm5l : (m5 : Int) ≤ (x.f4.size : Int) := by omega
            have hm50 : (0 : Int) ≤ (m5 : Int) := by omega
            clear hm5
            go_wp2_with (first | (at_builtin; refine Kd.R_append k54 (w0 := w) w.heap.size rfl (.tmp 73) (.tmp 75) 28 54 _ _ rfl Tryz.underlying28 info54 rfl (by decide) (by omega) u3 XS (⟨nm, kq, f2, f3, 0, 0, 0, 0, 0, x.f4.extract 0 m5, [], [], []⟩ : S54) _ (fun k => k ≠ wX.heap.size) (fun _ => False) rfl (by first | rfl | (simp only [World.size_setCell]; rfl) | (simp; done)) (k54_mkM _ _ _ _ (Kd.R_nil _ _ _ _ _) (Kd.R_nil _ _ _ _ _) (Kd.R_nil _ _ _ _ _)) (fun _ h => h.elim) ?aF (by repeat (first | exact HO5.out | refine Kd.R_far ?_ (fun k hk => hk) _)) (by repeat (first | exact HB5.out | refine Below.setCell ?_ HXB.out _)) ?aS ?aL ?_))
            case aF => intro k h; have h2 : w5.heap.size ≤ k := (by first | exact h | (simp only [World.size_setCell] at h; exact h)); exact (Nat.ne_of_lt (Nat.lt_of_lt_of_le hyl h2)).symm
            case aS => first | exact hbl | (simp only [World.size_setCell]; exact hbl)
            case aL => exact hXL
            intro v6 w6 hR6 hB6 hG6 hat6
            have HP6 := Lib.hid (blk_grown (o := .cells #[.int .i64 fl, .slice (some ad) ps.length c, v1, v2, v3] 38 (0, 0)) (by repeat (first | exact HP5.out | refine blk_far ?_ (Nat.ne_of_lt hwX0) _)) hG6 (Kd.R_ne HO5.out HP5.out (by decide)))
            have HR6 := Lib.hid (Kd.R_mono (ok' := fun _ => True) hR6 (fun _ _ => trivial))
            have HB6 := Lib.hid hB6
            clear hR6 hB6 hG6 hat6
            have hsec : secR x = (⟨nm, kq, f2, f3, 0, 0, 0, 0, 0, x.f4.extract 0 m5, [], [], []⟩ : S54) := by
              unfold secR
              rw [HQ.out, ← HKQ.out, ← HF2.out, ← HF3.out, if_pos HE4.out, if_neg HE8.out, if_neg HE8.out, ← HM5.out]
              rw [HNM.out]; rfl
            clear y0 y1 y2 y3 y4 y5 y6 y7 y8 y9 y10 y11 y12 z6 z8 z9 x2 x4 t1 t2 t3 t4 t5 t8 t9
            go_wp2
            go_roundw
            case rel =>
              refine ⟨k + 1, by omega, by omega, by go_num, Lib.hid ?_, HB6, HP6⟩
              have h := HR6.out
              rw [← hsec, HXS.out, List.append_assoc] at h
              rw [List.take_succ_eq_append_getElem hl1, List.map_append, ← HX.out]
              exact h
            case measure => simp [intOf]; omega
        · have e4 : (bits .and .i64 x.f2 4 == 4) = false := beq_eq_false_iff_ne.2 h4
          by_cases h8 : kq = 8
          · have e8 : (kq == 8) = true := beq_iff_eq.2 h8
            have HE8 := Lib.hid h8
            have HE4 := Lib.hid h4
            clear h8 h4
            go_wp2_with (first | (at_builtin; refine Kd.R_append k54 (w0 := w) w.heap.size rfl (.tmp 73) (.tmp 75) 28 54 _ _ rfl Tryz.underlying28 info54 rfl (by decide) (by omega) u3 XS (⟨nm, kq, f2, f3, 0, 0, al, 0, (x.f4.size : Int), ⟨#[]⟩, [], [], []⟩ : S54) _ (fun k => k ≠ wX.heap.size) (fun _ => False) rfl (by first | rfl | (simp only [World.size_setCell]; rfl) | (simp; done)) (k54_mkM _ _ _ _ (Kd.R_nil _ _ _ _ _) (Kd.R_nil _ _ _ _ _) (Kd.R_nil _ _ _ _ _)) (fun _ h => h.elim) ?aF (by repeat (first | exact HO5.out | refine Kd.R_far ?_ (fun k hk => hk) _)) (by repeat (first | exact HB5.out | refine Below.setCell ?_ HXB.out _)) ?aS ?aL ?_))
            case aF => intro k h; have h2 : w5.heap.size ≤ k := (by first | exact h | (simp only [World.size_setCell] at h; exact h)); exact (Nat.ne_of_lt (Nat.lt_of_lt_of_le hyl h2)).symm
            case aS => first | exact hbl | (simp only [World.size_setCell]; exact hbl)
            case aL => exact hXL
            intro v6 w6 hR6 hB6 hG6 hat6
            have HP6 := Lib.hid (blk_grown (o := .cells #[.int .i64 fl, .slice (some ad) ps.length c, v1, v2, v3] 38 (0, 0)) (by repeat (first | exact HP5.out | refine blk_far ?_ (Nat.ne_of_lt hwX0) _)) hG6 (Kd.R_ne HO5.out HP5.out (by decide)))
            have HR6 := Lib.hid (Kd.R_mono (ok' := fun _ => True) hR6 (fun _ _ => trivial))
            have HB6 := Lib.hid hB6
            clear hR6 hB6 hG6 hat6
            have hsec : secR x = (⟨nm, kq, f2, f3, 0, 0, al, 0, (x.f4.size : Int), ⟨#[]⟩, [], [], []⟩ : S54) := by
              unfold secR
              rw [HQ.out, ← HKQ.out, ← HF2.out, ← HF3.out, if_neg HE4.out, ← HAL.out, if_pos HE8.out, if_pos HE8.out]
              rw [HNM.out]; rfl
            clear y0 y1 y2 y3 y4 y5 y6 y7 y8 y9 y10 y11 y12 z6 z8 z9 x2 x4 t1 t2 t3 t4 t5 t8 t9
            go_wp2
            go_roundw
            case rel =>
              refine ⟨k + 1, by omega, by omega, by go_num, Lib.hid ?_, HB6, HP6⟩
              have h := HR6.out
              rw [← hsec, HXS.out, List.append_assoc] at h
              rw [List.take_succ_eq_append_getElem hl1, List.map_append, ← HX.out]
              exact h
            case measure => simp [intOf]; omega
          · have e8 : (kq == 8) = false := beq_eq_false_iff_ne.2 h8
            have HE8 := Lib.hid h8
            have HE4 := Lib.hid h4
            clear h8 h4
            obtain ⟨m5, hm5⟩ : ∃ m5, m5 = min x.f4.size 50 := ⟨_, rfl⟩
            have HM5 := Lib.hid hm5
            have hmn : (if (50 : Int) < (x.f4.size : Int) then (50 : Int) else (x.f4.size : Int)) = (m5 : Int) := by split <;> omega
            have hm5l : (m5 : Int) ≤ (x.f4.size : Int) := by omega
            have hm50 : (0 : Int) ≤ (m5 : Int) := by omega
            clear hm5
            go_wp2_with (first | (at_builtin; refine Kd.R_append k54 (w0 := w) w.heap.size rfl (.tmp 73) (.tmp 75) 28 54 _ _ rfl Tryz.underlying28 info54 rfl (by decide) (by omega) u3 XS (⟨nm, kq, f2, f3, 0, 0, al, 0, 0, x.f4.extract 0 m5, [], [], []⟩ : S54) _ (fun k => k ≠ wX.heap.size) (fun _ => False) rfl (by first | rfl | (simp only [World.size_setCell]; rfl) | (simp; done)) (k54_mkM _ _ _ _ (Kd.R_nil _ _ _ _ _) (Kd.R_nil _ _ _ _ _) (Kd.R_nil _ _ _ _ _)) (fun _ h => h.elim) ?aF (by repeat (first | exact HO5.out | refine Kd.R_far ?_ (fun k hk => hk) _)) (by repeat (first | exact HB5.out | refine Below.setCell ?_ HXB.out _)) ?aS ?aL ?_))
            case aF => intro k h; have h2 : w5.heap.size ≤ k := (by first | exact h | (simp only [World.size_setCell] at h; exact h)); exact (Nat.ne_of_lt (Nat.lt_of_lt_of_le hyl h2)).symm
            case aS => first | exact hbl | (simp only [World.size_setCell]; exact hbl)
            case aL => exact hXL
            intro v6 w6 hR6 hB6 hG6 hat6
            have HP6 := Lib.hid (blk_grown (o := .cells #[.int .i64 fl, .slice (some ad) ps.length c, v1, v2, v3] 38 (0, 0)) (by repeat (first | exact HP5.out | refine blk_far ?_ (Nat.ne_of_lt hwX0) _)) hG6 (Kd.R_ne HO5.out HP5.out (by decide)))
            have HR6 := Lib.hid (Kd.R_mono (ok' := fun _ => True) hR6 (fun _ _ => trivial))
            have HB6 := Lib.hid hB6
            clear hR6 hB6 hG6 hat6
            have hsec : secR x = (⟨nm, kq, f2, f3, 0, 0, al, 0, 0, x.f4.extract 0 m5, [], [], []⟩ : S54) := by
              unfold secR
              rw [HQ.out, ← HKQ.out, ← HF2.out, ← HF3.out, if_neg HE4.out, ← HAL.out, if_neg HE8.out, if_neg HE8.out, ← HM5.out]
              rw [HNM.out]; rfl
            clear y0 y1 y2 y3 y4 y5 y6 y7 y8 y9 y10 y11 y12 z6 z8 z9 x2 x4 t1 t2 t3 t4 t5 t8 t9
            go_wp2
            go_roundw
            case rel =>
              refine ⟨k + 1, by omega, by omega, by go_num, Lib.hid ?_, HB6, HP6⟩
              have h := HR6.out
              rw [← hsec, HXS.out, List.append_assoc] at h
              rw [List.take_succ_eq_append_getElem hl1, List.map_append, ← HX.out]
              exact h
            case measure => simp [intOf]; omega)
    · have hT : ps.take k = ps.take 6 := by
        by_cases h : k = 6
        · rw [h]
        · rw [List.take_of_length_le (by omega), List.take_of_length_le (by omega)]
      rw [hT] at HO
      by_cases h : k < ps.length
      · have h2 : ¬ k < 6 := by omega
        go_wp2
        go_ret
        exact ⟨_, rfl, HO.out, HB.out⟩
      · go_wp2
        go_ret
        exact ⟨_, rfl, HO.out, HB.out⟩
end Go.Proofs.YtkbamfiokhmpjaaGreatDoor

/- Contracts over this translation, plans' models: symbols. -/
namespace Go.Proofs.YtkbamfiokhmpjaaGreatDoor
set_option linter.unusedVariables false
set_option linter.unusedSimpArgs false
open Go.RowKit Go.Proofs.YtkbamfiokhmpjaaGreatDoorX.Kd Go.Proofs.YtkbamfiokhmpjaaGreatDoorW.PrintWords Go.Proofs.YtkbamfiokhmpjaaGreatDoorW.PrintLast Go.Proofs.YtkbamfiokhmpjaaGreatDoorW.PrintMore
attribute [local go_sem] max2_int min2_int max_two min_two

/-- A symbol of a plan, as the document's: b 0 for a local one. -/
def symR (b : Nat) (n : Int) (x : S62) : S56 where
  f0 := cleanB x.f0
  f1 := if b = 1 then IntKind.u64.wrap (IntKind.u64.wrap (bits .and .i64 (x.f1 / 2) 7) + IntKind.u64.wrap (16 * IntKind.u64.wrap (wrap64 (1 + bits .and .i64 (x.f1 / 64) 1)))) else IntKind.u64.wrap (bits .and .i64 (x.f1 / 2) 7)
  f2 := IntKind.u64.wrap (bits .and .i64 (x.f1 / 16) 3)
  f3 := IntKind.u64.wrap (bits .and .i64 x.f3 65535)
  f4 := IntKind.u64.wrap (bits .and .i64 x.f3 15)
  f5 := if bits .and .i64 x.f2 256 = 256 then 65521 else Int.tmod (IntKind.u64.wrap (bits .and .i64 x.f2 255)) n
  f6 := bits .and .i64 x.f2 256 == 256
def selB (b : Nat) (x : S62) : Bool := bits .and .i64 x.f1 1 == (b : Int)
def symsK (ys : List S62) (n : Int) (b k : Nat) : List S56 := ((ys.take k).filter (selB b)).map (symR b n)
theorem symsK_succ (ys : List S62) (n : Int) (b k : Nat) (h : k < ys.length) : symsK ys n b (k + 1) = symsK ys n b k ++ (if selB b ys[k] = true then [symR b n ys[k]] else []) := by
  unfold symsK
  rw [List.take_succ_eq_append_getElem h, List.filter_append, List.map_append]
  congr 1
  rw [List.filter_cons]
  split <;> rfl
def symbolsR (ys : List S62) (n : Int) : List S56 := [z56] ++ symsK ys n 0 8 ++ symsK ys n 1 8
/-- What stands in the list ahead of the round of b. -/
def symsB (ys : List S62) (n : Int) (b : Nat) : List S56 := [z56] ++ (if 1 ≤ b then symsK ys n 0 8 else []) ++ (if 2 ≤ b then symsK ys n 1 8 else [])
def locB (ys : List S62) (n : Int) (b : Nat) : Nat := 1 + (if 1 ≤ b then (symsK ys n 0 8).length else 0)
set_option maxRecDepth 100000 in
set_option maxHeartbeats 16000000 in
theorem symbols_any (fl : Int) (ys : List S62) (n : Int) (hn : 0 < n ∧ n < 18446744073709551616) (hys : ∀ x ∈ ys, x.f0.size ≤ 9223372036854775807) (a : Option Addr) (c : Nat) (v1 v2 v3 : Value) (w : World) (hr : Kd.C k62 w a ys.length ys) :
    Calls Tryz.prog 12 #[.agg #[.int .i64 fl, v1, .slice a ys.length c, v2, v3], .int .u64 n] w fun e w' => ∃ v, e = .returned (.tuple #[v, .int .u64 (locB ys n 2 : Nat)]) ∧ Kd.R k56 56 w' w.heap.size (fun _ => True) v (symbolsR ys n) ∧ Below w.heap.size w w' := by
  have HR := Lib.hid hr
  clear hr
  go_enter Tryz.func12, Tryz.ntmps12
  go_wp2
  have HO0 : Kd.R k56 56 ((w.alloc (.cells #[.int .i64 fl, v1, .slice a ys.length c, v2, v3] 38)).alloc (.cells #[.string ⟨#[]⟩, .int .u64 0, .int .u64 0, .int .u64 0, .int .u64 0, .int .u64 0, .bool false] 56)) w.heap.size (fun _ => True) (.slice (some ⟨w.heap.size + 1, 0, none⟩) 1 1) [z56] := by
    have hs : w.heap.size + 1 = (w.alloc (.cells #[.int .i64 fl, v1, .slice a ys.length c, v2, v3] 38)).heap.size := by simp
    refine ⟨fun _ _ => trivial, [.string ⟨#[]⟩, .int .u64 0, .int .u64 0, .int .u64 0, .int .u64 0, .int .u64 0, .bool false], ?_, ?_⟩
    · rw [hs]
      exact World.ownsRow_lit (base := w.heap.size) (e := 56) (size := 7) _ _ 1 (by omega) (by unfold maxLen; omega) rfl
    · exact Reps.front (k56_mkM _ _ _ z56) rfl (Reps.none _ _) rfl
  have HO1 := Lib.hid HO0
  have HW0 := Lib.hid (show Below w.heap.size w ((w.alloc (.cells #[.int .i64 fl, v1, .slice a ys.length c, v2, v3] 38)).alloc (.cells #[.string ⟨#[]⟩, .int .u64 0, .int .u64 0, .int .u64 0, .int .u64 0, .int .u64 0, .bool false] 56)) from ((Below.refl _ _).alloc (Nat.le_refl _) _).alloc (by simp) _)
  clear HO0
  go_loopw [6, 7, 8] (fun o l i wr => ∃ b : Nat, b ≤ 2 ∧ i = .int .i64 b ∧ l = .int .u64 (locB ys n b : Nat) ∧ Hid (Kd.R k56 56 wr w.heap.size (fun _ => True) o (symsB ys n b)) ∧ Hid (Below w.heap.size w wr) ∧ Hid (wr.heap[w.heap.size]? = some (.cells #[.int .i64 fl, v1, .slice a ys.length c, v2, v3] 38 (0, 0)))) (fun _ _ i _ => 2 - (intOf i).toNat)
  case atStart => exact ⟨0, by omega, rfl, rfl, HO1, HW0, Lib.hid (blk_alloc (blk_new w _) _)⟩
  case round =>
    obtain ⟨b, hb2, rfl, rfl, HO, HB, HP⟩ := hrel
    by_cases hb : b < 2
    · have eb : decide ((b : Int) < 2) = true := decide_eq_true (by omega)
      go_wp2
      go_loopw [6, 7, 9] (fun o l i wr => ∃ k : Nat, k ≤ ys.length ∧ k ≤ 8 ∧ i = .int .i64 k ∧ l = .int .u64 ((locB ys n b + (if b = 0 then (symsK ys n b k).length else 0) : Nat) : Int) ∧ Hid (Kd.R k56 56 wr w.heap.size (fun _ => True) o (symsB ys n b ++ symsK ys n b k)) ∧ Hid (Below w.heap.size w wr) ∧ Hid (wr.heap[w.heap.size]? = some (.cells #[.int .i64 fl, v1, .slice a ys.length c, v2, v3] 38 (0, 0)))) (fun _ _ i _ => 8 - (intOf i).toNat)
      case atStart => exact ⟨0, Nat.zero_le _, Nat.zero_le _, rfl, by simp [symsK], Lib.hid (by have h := HO.out; simpa [symsK] using h), HB, HP⟩
      case round =>
        obtain ⟨k, hk1, hk8, rfl, rfl, HO2, HB2, HP2⟩ := hrel
        obtain ⟨lc, hlc⟩ : ∃ lc, lc = locB ys n b + (if b = 0 then (symsK ys n b k).length else 0) := ⟨_, rfl⟩
        have hlc9 : lc ≤ 17 := by
          have h1 : ∀ b k, (symsK ys n b k).length ≤ k := fun b k => by
            unfold symsK
            rw [List.length_map]
            exact Nat.le_trans (List.length_filter_le _ _) (by rw [List.length_take]; omega)
          have h2 := h1 b k
          have h3 := h1 0 8
          rw [hlc]; unfold locB
          split <;> split <;> omega
        have HLC := Lib.hid hlc
        rw [← hlc]
        clear hlc
        have q1 : wr.cell? ⟨w.heap.size, 2, none⟩ = some (.slice a ys.length c) := (blk_cell HP2.out 2).trans rfl
        by_cases hlt : k < ys.length ∧ k < 8
        · obtain ⟨hl1, hl2⟩ := hlt
          obtain ⟨ad, hA, p0, p1, p2, p3⟩ := at_T62 (Kd.C_below HR.out HB2.out) (k : Int) (by omega) (by omega)
          subst hA
          rw [Int.toNat_natCast] at p0 p1 p2 p3
          have HX := Lib.hid (show rd_T62 ys (k : Int) = ys[k] by unfold rd_T62; rw [Int.toNat_natCast]; simp [List.getD, hl1])
          have hx := hys ys[k] (List.getElem_mem hl1)
          have HSK := Lib.hid (symsK_succ ys n b k hl1)
          rw [← HX.out] at hx
          obtain ⟨x, hxe⟩ : ∃ x, x = rd_T62 ys (k : Int) := ⟨_, rfl⟩
          rw [← hxe] at HX p0 p1 p2 p3 hx
          clear hxe
          rw [← HX.out] at HSK
          have HCL := Lib.hid (fun W => clean_any x.f0.data.toList (by rw [Array.length_toList]; exact hx) W)
          have hb0 : (⟨x.f0.data.toList.toArray⟩ : ByteArray) = x.f0 := by cases x.f0; simp
          rw [hb0] at HCL
          clear hb0
          have hn0 : n ≠ 0 := by omega
          by_cases hsel : bits .and .i64 x.f1 1 = (b : Int)
          · have e1 : (bits .and .i64 x.f1 1 != (b : Int)) = false := by rw [hsel]; simp
            have HSE := Lib.hid (show selB b x = true from beq_iff_eq.2 hsel)
            clear hsel
            go_wp2
            obtain ⟨wX, hwX⟩ : ∃ wX, wX = wr.alloc (.cells #[.string x.f0, .int .i64 x.f1, .int .i64 x.f2, .int .i64 x.f3] 62) := ⟨_, rfl⟩
            have HBX := Lib.hid (show Below w.heap.size w wX by rw [hwX]; exact HB2.out.alloc HB2.out.size _)
            have HOX := Lib.hid (show Kd.R k56 56 wX w.heap.size (fun _ => True) u6 (symsB ys n b ++ symsK ys n b k) by rw [hwX]; exact Kd.R_alloc HO2.out _)
            have HPX := Lib.hid (show wX.heap[w.heap.size]? = some (.cells #[.int .i64 fl, v1, .slice (some ad) ys.length c, v2, v3] 38 (0, 0)) by rw [hwX]; exact blk_alloc HP2.out _)
            have HXK := Lib.hid (show ∀ W, Below wX.heap.size wX W → W.heap[wr.heap.size]? = some (.cells #[.string x.f0, .int .i64 x.f1, .int .i64 x.f2, .int .i64 x.f3] 62 (0, 0)) from fun W hb => blk_below (by rw [hwX]; exact blk_new wr _) hb)
            have hwrX : wr.heap.size < wX.heap.size := by rw [hwX]; simp
            rw [← hwX]
            have hwX0 : w.heap.size < wX.heap.size := Nat.lt_of_le_of_lt HB2.out.size hwrX
            have HXC := Lib.hid (show ∀ W, Below wX.heap.size wX W → W.cell? ⟨wr.heap.size, 0, none⟩ = some (.string x.f0) ∧ W.cell? ⟨wr.heap.size, 1, none⟩ = some (.int .i64 x.f1) ∧ W.cell? ⟨wr.heap.size, 2, none⟩ = some (.int .i64 x.f2) ∧ W.cell? ⟨wr.heap.size, 3, none⟩ = some (.int .i64 x.f3) from fun W hb => ⟨blk_cell (HXK.out W hb) 0, blk_cell (HXK.out W hb) 1, blk_cell (HXK.out W hb) 2, blk_cell (HXK.out W hb) 3⟩)
            clear hwX HO2 HB2 HP2 q1 p0 p1 p2 p3
            obtain ⟨nm, hnm⟩ : ∃ nm : ByteArray, nm = ⟨(cleanL x.f0.data.toList).toArray⟩ := ⟨_, rfl⟩
            obtain ⟨i1, hi1⟩ : ∃ i1, i1 = IntKind.u64.wrap (bits .and .i64 (x.f1 / 2) 7) := ⟨_, rfl⟩
            obtain ⟨i2, hi2⟩ : ∃ i2, i2 = IntKind.u64.wrap (bits .and .i64 (x.f1 / 16) 3) := ⟨_, rfl⟩
            obtain ⟨i3, hi3⟩ : ∃ i3, i3 = IntKind.u64.wrap (bits .and .i64 x.f3 65535) := ⟨_, rfl⟩
            obtain ⟨i4, hi4⟩ : ∃ i4, i4 = IntKind.u64.wrap (bits .and .i64 x.f3 15) := ⟨_, rfl⟩
            obtain ⟨i5, hi5⟩ : ∃ i5, i5 = Int.tmod (IntKind.u64.wrap (bits .and .i64 x.f2 255)) n := ⟨_, rfl⟩
            obtain ⟨w5, hw5⟩ : ∃ w5, w5 = (wX.alloc (.cells #[.string nm, .int .u64 i1, .int .u64 i2, .int .u64 i3, .int .u64 i4, .int .u64 i5, .bool false] 56)).drew := ⟨_, rfl⟩
            have HI := Lib.hid (And.intro hnm (And.intro hi1 (And.intro hi2 (And.intro hi3 (And.intro hi4 hi5)))))
            have HW5 := Lib.hid hw5
            clear hw5 hnm hi1 hi2 hi3 hi4 hi5
            go_upto_region 11 with (fail)
            go_cut [11] from 18 to 91 (fun s11 wx => s11 = .pointer (some ⟨wX.heap.size, 0, none⟩) ∧ wx = w5)
            case first =>
              go_region_held3 (fun w' => w'.cell? ⟨wr.heap.size, 0, none⟩ = some (.string x.f0) ∧ w'.cell? ⟨wr.heap.size, 1, none⟩ = some (.int .i64 x.f1) ∧ w'.cell? ⟨wr.heap.size, 2, none⟩ = some (.int .i64 x.f2) ∧ w'.cell? ⟨wr.heap.size, 3, none⟩ = some (.int .i64 x.f3))
                (first | exact HXC.out _ (Go.below_drewN (Below.refl _ _) 1) | exact HXC.out _ (Below.refl _ _) | exact HXC.out _ ((Go.below_drewN (Below.refl _ _) 1).alloc (Nat.le_refl _) _) | exact HXC.out _ ((Below.refl _ _).alloc (Nat.le_refl _) _))
                (first | (go_at_call 24; refine (HCL.out _).mono ?_; rintro e w4 ⟨rfl, rfl⟩))
              all_goals (go_wp2_with fail; go_meet; exact ⟨rfl, by rw [HW5.out, HI.out.1, HI.out.2.1, HI.out.2.2.1, HI.out.2.2.2.1, HI.out.2.2.2.2.1, HI.out.2.2.2.2.2]⟩)
            case rest =>
              obtain ⟨rfl, rfl⟩ := hcut
              have hw5 := HW5.out
              have hbx5 : Below wX.heap.size wX wc := by rw [hw5]; exact Go.below_drewN ((Below.refl _ _).alloc (Nat.le_refl _) _) 1
              have HY := Lib.hid (show wc.heap[wX.heap.size]? = some (.cells #[.string nm, .int .u64 i1, .int .u64 i2, .int .u64 i3, .int .u64 i4, .int .u64 i5, .bool false] 56 (0, 0)) by rw [hw5]; exact blk_new wX _)
              have HO5 := Lib.hid (Kd.R_below (Kd.R_mono (ok' := fun k => k ≠ wX.heap.size) (Kd.R_bound HOX.out) (fun k hk => Nat.ne_of_lt hk.2.2.1)) hbx5)
              obtain ⟨XS, hXS⟩ : ∃ XS, XS = symsB ys n b ++ symsK ys n b k := ⟨_, rfl⟩
              have hXL : (XS.length + 1) * 64 ≤ 140737488355328 := by
                have h1 : ∀ b k, (symsK ys n b k).length ≤ k := fun b k => by
                  unfold symsK
                  rw [List.length_map]
                  exact Nat.le_trans (List.length_filter_le _ _) (by rw [List.length_take]; omega)
                have h2 := h1 b k
                have h3 := h1 0 8
                have h4 := h1 1 8
                rw [hXS]; unfold symsB
                rw [List.length_append, List.length_append, List.length_append, List.length_singleton]
                split <;> split <;> (try simp only [List.length_nil]) <;> omega
              rw [← hXS] at HO5
              have HXS := Lib.hid hXS
              clear hXS
              have HB5 := Lib.hid (HBX.out.trans (hbx5.mono HBX.out.size))
              have HP5 := Lib.hid (blk_below HPX.out hbx5)
              have HX5 := Lib.hid (HXK.out wc hbx5)
              have HXB := Lib.hid (show w.heap.size ≤ wX.heap.size from HBX.out.size)
              have hne : wr.heap.size ≠ wX.heap.size := Nat.ne_of_lt hwrX
              clear hw5 hbx5 HXK HXC HOX HPX HBX HW5
              have x1 := blk_cell HX5.out 1
              have y1 := blk_cell HY.out 1
              simp only [List.getElem?_toArray, List.getElem?_cons_succ, List.getElem?_cons_zero] at x1 y1
              have z1 := blk_frozen HY.out 1
              go_upto_if 68 with (fail)
              go_cut [7] from 18 to 91 (fun s7 wx => ∃ j1 : Int, s7 = .int .u64 ((lc + (if b = 0 then 1 else 0) : Nat) : Int) ∧ j1 = (if b = 1 then IntKind.u64.wrap (i1 + IntKind.u64.wrap (16 * IntKind.u64.wrap (wrap64 (1 + bits .and .i64 (x.f1 / 64) 1)))) else i1) ∧ Hid (wx.heap[wX.heap.size]? = some (.cells #[.string nm, .int .u64 j1, .int .u64 i2, .int .u64 i3, .int .u64 i4, .int .u64 i5, .bool false] 56 (0, 0)) ∧ Kd.R k56 56 wx w.heap.size (fun k => k ≠ wX.heap.size) u6 XS ∧ Below w.heap.size w wx ∧ wx.heap[w.heap.size]? = some (.cells #[.int .i64 fl, v1, .slice (some ad) ys.length c, v2, v3] 38 (0, 0)) ∧ wx.heap[wr.heap.size]? = some (.cells #[.string x.f0, .int .i64 x.f1, .int .i64 x.f2, .int .i64 x.f3] 62 (0, 0))))
              case first =>
                by_cases hb1 : b = 1
                · have e3 : ((b : Int) == 1) = true := by rw [hb1]; rfl
                  have HB1 := Lib.hid hb1
                  clear hb1
                  go_wp2
                  go_meet
                  case rel => exact ⟨_, by rw [HB1.out, if_neg (by decide)]; rfl, by rw [if_pos HB1.out], Lib.hid ⟨blk_put HY.out 1 _ rfl, Kd.R_far HO5.out (fun k hk => hk) _, HB5.out.setCell HXB.out _, blk_far HP5.out (Nat.ne_of_lt hwX0) _, blk_far HX5.out hne _⟩⟩
                · have hb0 : b = 0 := by omega
                  have e3 : ((b : Int) == 1) = false := by rw [hb0]; rfl
                  have HB1 := Lib.hid hb1
                  have HB0 := Lib.hid hb0
                  clear hb1 hb0
                  go_wp2
                  go_meet
                  case rel => exact ⟨_, by rw [HB0.out, if_pos rfl]; go_num, by rw [if_neg HB1.out], Lib.hid ⟨HY.out, HO5.out, HB5.out, HP5.out, HX5.out⟩⟩
              case rest =>
                clear x1 y1 z1 HY HO5 HB5 HP5 HX5
                obtain ⟨j1, rfl, hj1, HH⟩ := hcut
                have HJ1 := Lib.hid hj1
                clear hj1
                obtain ⟨lc2, hlc2⟩ : ∃ lc2, lc2 = lc + (if b = 0 then 1 else 0) := ⟨_, rfl⟩
                rw [← hlc2]
                have HLC2 := Lib.hid hlc2
                clear hlc2
                have HY := Lib.hid HH.out.1
                have HO5 := Lib.hid HH.out.2.1
                have HB5 := Lib.hid HH.out.2.2.1
                have HP5 := Lib.hid HH.out.2.2.2.1
                have HX5 := Lib.hid HH.out.2.2.2.2
                clear HH
                have x2 := blk_cell HX5.out 2
                have y5 := blk_cell HY.out 5
                have y6 := blk_cell HY.out 6
                simp only [List.getElem?_toArray, List.getElem?_cons_succ, List.getElem?_cons_zero] at x2 y5 y6
                have z5 := blk_frozen HY.out 5
                have z6 := blk_frozen HY.out 6
                go_upto_if 85 with (fail)
                go_cut [] from 18 to 91 (fun wx => ∃ (j5 : Int) (j6 : Bool), (j5 = (if bits .and .i64 x.f2 256 = 256 then 65521 else i5) ∧ j6 = (bits .and .i64 x.f2 256 == 256)) ∧ Hid (wx.heap[wX.heap.size]? = some (.cells #[.string nm, .int .u64 j1, .int .u64 i2, .int .u64 i3, .int .u64 i4, .int .u64 j5, .bool j6] 56 (0, 0)) ∧ Kd.R k56 56 wx w.heap.size (fun k => k ≠ wX.heap.size) u6 XS ∧ Below w.heap.size w wx ∧ wx.heap[w.heap.size]? = some (.cells #[.int .i64 fl, v1, .slice (some ad) ys.length c, v2, v3] 38 (0, 0))))
                case first =>
                  by_cases hsp : bits .and .i64 x.f2 256 = 256
                  · have e2 : (bits .and .i64 x.f2 256 == 256) = true := beq_iff_eq.2 hsp
                    have HSP := Lib.hid hsp
                    clear hsp
                    go_wp2
                    go_meet
                    case rel => exact ⟨_, _, ⟨by rw [if_pos HSP.out], by rw [e2]⟩, Lib.hid ⟨blk_put (blk_put HY.out 6 _ rfl) 5 _ rfl, Kd.R_far (Kd.R_far HO5.out (fun k hk => hk) _) (fun k hk => hk) _, (HB5.out.setCell HXB.out _).setCell HXB.out _, blk_far (blk_far HP5.out (Nat.ne_of_lt hwX0) _) (Nat.ne_of_lt hwX0) _⟩⟩
                  · have e2 : (bits .and .i64 x.f2 256 == 256) = false := beq_eq_false_iff_ne.2 hsp
                    have HSP := Lib.hid hsp
                    clear hsp
                    go_wp2
                    go_meet
                    case rel => exact ⟨_, _, ⟨by rw [if_neg HSP.out], by rw [e2]⟩, Lib.hid ⟨HY.out, HO5.out, HB5.out, HP5.out⟩⟩
                case rest =>
                  clear x2 y5 y6 z5 z6 HY HO5 HB5 HP5 HX5
                  obtain ⟨j5, j6, hj, HH⟩ := hcut
                  have HJ := Lib.hid hj
                  clear hj
                  have HY := Lib.hid HH.out.1
                  have HO5 := Lib.hid HH.out.2.1
                  have HB5 := Lib.hid HH.out.2.2.1
                  have HP5 := Lib.hid HH.out.2.2.2
                  clear HH
                  have y0 := blk_cell HY.out 0
                  have y1 := blk_cell HY.out 1
                  have y2 := blk_cell HY.out 2
                  have y3 := blk_cell HY.out 3
                  have y4 := blk_cell HY.out 4
                  have y5 := blk_cell HY.out 5
                  have y6 := blk_cell HY.out 6
                  simp only [List.getElem?_toArray, List.getElem?_cons_succ, List.getElem?_cons_zero] at y0 y1 y2 y3 y4 y5 y6
                  have hyl := Lib.hid (blk_lt HY.out)
                  have hbl := Lib.hid (HB5.out.size)
                  go_wp2_with (first | (at_builtin; refine Kd.R_append k56 (w0 := w) w.heap.size rfl (.tmp 88) (.tmp 90) 50 56 _ _ rfl Tryz.underlying50 info56 rfl (by decide) (by omega) u6 XS (⟨nm, j1, i2, i3, i4, j5, j6⟩ : S56) _ (fun k => k ≠ wX.heap.size) (fun _ => False) rfl rfl (k56_mkM _ _ _ _) (fun _ h => h.elim) ?aF HO5.out HB5.out ?aS ?aL ?_))
                  case aF => intro k h; exact (Nat.ne_of_lt (Nat.lt_of_lt_of_le hyl.out h)).symm
                  case aS => exact hbl.out
                  case aL => exact hXL
                  intro v6 w6 hR6 hB6 hG6 hat6
                  have HP6 := Lib.hid (blk_grown (o := (.cells #[.int .i64 fl, v1, .slice (some ad) ys.length c, v2, v3] 38 (0, 0))) HP5.out hG6 (Kd.R_ne HO5.out HP5.out (by decide)))
                  have HR6 := Lib.hid (Kd.R_mono (ok' := fun _ => True) hR6 (fun _ _ => trivial))
                  have HB6 := Lib.hid hB6
                  clear hR6 hB6 hG6 hat6
                  have hsec : symR b n x = (⟨nm, j1, i2, i3, i4, j5, j6⟩ : S56) := by
                    obtain ⟨h0, h1, h2, h3, h4, h5⟩ := HI.out
                    unfold symR
                    rw [← h1, ← h2, ← h3, ← h4, ← h5, ← HJ1.out, ← HJ.out.1, ← HJ.out.2]
                    rw [h0]; rfl
                  have HSEC := Lib.hid hsec
                  clear hsec y0 y1 y2 y3 y4 y5 y6
                  go_wp2
                  go_roundw
                  case rel =>
                    refine ⟨k + 1, by omega, by omega, by go_num, ?_, Lib.hid ?_, HB6, HP6⟩
                    · have h2 := congrArg List.length HSK.out
                      rw [if_pos HSE.out, List.length_append, List.length_singleton] at h2
                      have h := HLC.out
                      have h3 := HLC2.out
                      by_cases hq : b = 0
                      · rw [if_pos hq] at h h3 ⊢
                        rw [h3, h, h2]; go_num
                      · rw [if_neg hq] at h h3 ⊢
                        rw [h3, h]
                    · have h := HR6.out
                      rw [← HSEC.out, HXS.out, List.append_assoc] at h
                      rw [HSK.out, if_pos HSE.out]
                      exact h
                  case measure => simp [intOf]; omega
          · have e1 : (bits .and .i64 x.f1 1 != (b : Int)) = true := bne_iff_ne.2 hsel
            have HSE := Lib.hid (show selB b x = false from beq_eq_false_iff_ne.2 hsel)
            have HSN := Lib.hid (show symsK ys n b (k + 1) = symsK ys n b k by rw [HSK.out, HSE.out, if_neg (by decide), List.append_nil])
            clear hsel
            go_wp2
            go_roundw
            case rel => exact ⟨k + 1, by omega, by omega, by go_num, by rw [HSN.out, HLC.out], Lib.hid (by rw [HSN.out]; exact Kd.R_alloc HO2.out _), Lib.hid (HB2.out.alloc HB2.out.size _), Lib.hid (blk_alloc HP2.out _)⟩
            case measure => simp [intOf]; omega
        · have hT : symsK ys n b k = symsK ys n b 8 := by
            unfold symsK
            by_cases h : k = 8
            · rw [h]
            · rw [List.take_of_length_le (by omega), List.take_of_length_le (by omega)]
          have HT := Lib.hid hT
          have HBB := Lib.hid (show lc = locB ys n (b + 1) ∧ symsB ys n (b + 1) = symsB ys n b ++ symsK ys n b k by
            rw [hT]
            have h := HLC.out
            rw [hT] at h
            rcases (by omega : b = 0 ∨ b = 1) with rfl | rfl
            · exact ⟨by rw [h, if_pos rfl]; unfold locB; rw [if_neg (by decide), if_pos (by decide)], by unfold symsB; rw [if_pos (by decide), if_neg (by decide), if_neg (by decide), if_neg (by decide)]; simp⟩
            · exact ⟨by rw [h, if_neg (by decide)]; unfold locB; rw [if_pos (by decide), if_pos (by decide)]; rfl, by unfold symsB; rw [if_pos (by decide), if_pos (by decide), if_pos (by decide), if_neg (by decide)]; simp⟩)
          have HR8 := Lib.hid (show Kd.R k56 56 wr w.heap.size (fun _ => True) u6 (symsB ys n (b + 1)) by rw [HBB.out.2]; exact HO2.out)
          clear hT
          by_cases h : k < ys.length
          · have h2 : ¬ k < 8 := by omega
            go_wp2
            go_roundw
            case rel => exact ⟨b + 1, by omega, by go_num, by rw [HBB.out.1], HR8, HB2, HP2⟩
            case measure => simp [intOf]; omega
          · go_wp2
            go_roundw
            case rel => exact ⟨b + 1, by omega, by go_num, by rw [HBB.out.1], HR8, HB2, HP2⟩
            case measure => simp [intOf]; omega
    · obtain rfl : b = 2 := by omega
      have hx : symsB ys n 2 = symbolsR ys n := rfl
      rw [hx] at HO
      go_wp2
      go_ret2
      exact ⟨_, rfl, HO.out, HB.out⟩
end Go.Proofs.YtkbamfiokhmpjaaGreatDoor

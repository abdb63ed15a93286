/- Contracts over this translation, plans' models: sections. -/
import Derived.Test.YtkbamfiokhmpjaaDoorXKdM17A
namespace Go.Proofs.YtkbamfiokhmpjaaDoor
set_option linter.unusedVariables false
set_option linter.unusedSimpArgs false
open Go.RowKit Go.Proofs.YtkbamfiokhmpjaaDoorX.Kd Go.Proofs.YtkbamfiokhmpjaaDoorW.PrintWords Go.Proofs.YtkbamfiokhmpjaaDoorW.PrintLast Go.Proofs.YtkbamfiokhmpjaaDoorW.PrintMore
attribute [local go_sem] max2_int min2_int max_two min_two

theorem i64_and3 (n : Int) : bits .and .i64 n 3 = n % 4 := by
  have hm : (BitVec.ofInt 64 3).toNat = 2 ^ 2 - 1 := by decide
  have key : (BitVec.ofInt 64 n &&& BitVec.ofInt 64 3).toNat = (n % ((2 ^ 64 : Nat) : Int)).toNat % 2 ^ 2 := by
    rw [BitVec.toNat_and, BitVec.toNat_ofInt, hm, Nat.and_two_pow_sub_one_eq_mod]
  show IntKind.i64.wrap ((BitVec.ofInt 64 n &&& BitVec.ofInt 64 3).toNat : Nat) = n % 4
  rw [key, IntKind.wrap_i64]
  omega
def cleanB (s : ByteArray) : ByteArray := ⟨(cleanL s.data.toList).toArray⟩
def kindL : List Int := [1, 8, 7, 3, 1879048193, 14]
def kindN (x : Int) : Nat := (Int.tmod (Int.tmod x 6 + 6) 6).toNat
/-- A section of a plan, as the document's. -/
def secR (x : S70) : S61 where
  f0 := cleanB x.f0
  f1 := kindL.getD (kindN x.f1) 0
  f2 := IntKind.u64.wrap (bits .and .i64 x.f3 7)
  f3 := IntKind.u64.wrap (bits .and .i64 x.f3 4095)
  f4 := 0
  f5 := 0
  f6 := if bits .and .i64 x.f2 4 = 4 then 0 else IntKind.u64.wrap (2 ^ (bits .and .i64 x.f2 3).toNat)
  f7 := 0
  f8 := if kindL.getD (kindN x.f1) 0 = 8 then (x.f4.size : Int) else 0
  f9 := if kindL.getD (kindN x.f1) 0 = 8 then ⟨#[]⟩ else x.f4.extract 0 (min x.f4.size 50)
  f10 := []
  f11 := []
  f12 := []
def nameS : S61 := { z61 with f0 := ⟨#[46, 110, 97, 109, 101, 115]⟩, f1 := 3 }
def sectionsR (ps : List S70) : List S61 := [z61, nameS] ++ (ps.take 6).map secR
set_option maxRecDepth 100000 in
set_option maxHeartbeats 2000000 in
theorem sections_any (fl : Int) (ps : List S70) (hps : ∀ x ∈ ps, x.f0.size ≤ 9223372036854775807 ∧ x.f4.size ≤ 9223372036854775807) (a : Option Addr) (c : Nat) (v1 v2 v3 : Value) (w : World) (hr : Kd.C k70 w a ps.length ps) :
    Calls Tryd.prog 14 #[.agg #[.int .i64 fl, .slice a ps.length c, v1, v2, v3]] w fun e w' => ∃ v, e = .returned v ∧ Kd.R k61 61 w' w.heap.size (fun _ => True) v (sectionsR ps) ∧ Below w.heap.size w w' := by
  have HR := Lib.hid hr
  clear hr
  go_enter Tryd.func14, Tryd.ntmps14
  go_wp2
  have HO0 : Kd.R k61 61 ((w.alloc (.cells #[.int .i64 fl, .slice a ps.length c, v1, v2, v3] 27)).alloc (.cells #[.string ⟨#[]⟩, .int .u64 0, .int .u64 0, .int .u64 0, .int .u64 0, .int .u64 0, .int .u64 0, .int .u64 0, .int .u64 0, .string ⟨#[]⟩, .slice none 0 0, .slice none 0 0, .slice none 0 0, .string ⟨#[46, 110, 97, 109, 101, 115]⟩, .int .u64 3, .int .u64 0, .int .u64 0, .int .u64 0, .int .u64 0, .int .u64 0, .int .u64 0, .int .u64 0, .string ⟨#[]⟩, .slice none 0 0, .slice none 0 0, .slice none 0 0] 61)) w.heap.size (fun _ => True) (.slice (some ⟨w.heap.size + 1, 0, none⟩) 2 2) [z61, nameS] := by
    have hs : w.heap.size + 1 = (w.alloc (.cells #[.int .i64 fl, .slice a ps.length c, v1, v2, v3] 27)).heap.size := by simp
    refine ⟨fun _ _ => trivial, [.string ⟨#[]⟩, .int .u64 0, .int .u64 0, .int .u64 0, .int .u64 0, .int .u64 0, .int .u64 0, .int .u64 0, .int .u64 0, .string ⟨#[]⟩, .slice none 0 0, .slice none 0 0, .slice none 0 0, .string ⟨#[46, 110, 97, 109, 101, 115]⟩, .int .u64 3, .int .u64 0, .int .u64 0, .int .u64 0, .int .u64 0, .int .u64 0, .int .u64 0, .int .u64 0, .string ⟨#[]⟩, .slice none 0 0, .slice none 0 0, .slice none 0 0], ?_, ?_⟩
    · rw [hs]
      exact World.ownsRow_lit (base := w.heap.size) (e := 61) (size := 13) _ _ 2 (by omega) (by unfold maxLen; omega) rfl
    · refine Reps.front (k61_mkM _ _ _ z61 (Kd.R_nil _ _ _ _ _) (Kd.R_nil _ _ _ _ _) (Kd.R_nil _ _ _ _ _)) rfl (Reps.front (k61_mkM _ _ _ nameS (Kd.R_nil _ _ _ _ _) (Kd.R_nil _ _ _ _ _) (Kd.R_nil _ _ _ _ _)) rfl (Reps.none _ _) rfl) rfl
  have HO1 := Lib.hid HO0
  have HW0 := Lib.hid (show Below w.heap.size w ((w.alloc (.cells #[.int .i64 fl, .slice a ps.length c, v1, v2, v3] 27)).alloc (.cells #[.string ⟨#[]⟩, .int .u64 0, .int .u64 0, .int .u64 0, .int .u64 0, .int .u64 0, .int .u64 0, .int .u64 0, .int .u64 0, .string ⟨#[]⟩, .slice none 0 0, .slice none 0 0, .slice none 0 0, .string ⟨#[46, 110, 97, 109, 101, 115]⟩, .int .u64 3, .int .u64 0, .int .u64 0, .int .u64 0, .int .u64 0, .int .u64 0, .int .u64 0, .int .u64 0, .string ⟨#[]⟩, .slice none 0 0, .slice none 0 0, .slice none 0 0] 61)) from ((Below.refl _ _).alloc (Nat.le_refl _) _).alloc (by simp) _)
  clear HO0
  go_loopw [3, 4] (fun o i wr => ∃ k : Nat, k ≤ ps.length ∧ k ≤ 6 ∧ i = .int .i64 k ∧ Hid (Kd.R k61 61 wr w.heap.size (fun _ => True) o ([z61, nameS] ++ (ps.take k).map secR)) ∧ Hid (Below w.heap.size w wr) ∧ Hid (wr.heap[w.heap.size]? = some (.cells #[.int .i64 fl, .slice a ps.length c, v1, v2, v3] 27 (0, 0)))) (fun _ i _ => 6 - (intOf i).toNat)
  case atStart => exact ⟨0, Nat.zero_le _, Nat.zero_le _, rfl, HO1, HW0, Lib.hid (blk_alloc (blk_new w _) _)⟩
  case round =>
    obtain ⟨k, hk1, hk6, rfl, HO, HB, HP⟩ := hrel
    have q1 : wr.cell? ⟨w.heap.size, 1, none⟩ = some (.slice a ps.length c) := (blk_cell HP.out 1).trans rfl
    by_cases hlt : k < ps.length ∧ k < 6
    · obtain ⟨hl1, hl2⟩ := hlt
      obtain ⟨ad, hA, p0, p1, p2, p3, p4⟩ := at_T70 (Kd.C_below HR.out HB.out) (k : Int) (by omega) (by omega)
      subst hA
      rw [Int.toNat_natCast] at p0 p1 p2 p3 p4
      have HX := Lib.hid (show rd_T70 ps (k : Int) = ps[k] by unfold rd_T70; rw [Int.toNat_natCast]; simp [List.getD, hl1])
      have hx := hps ps[k] (List.getElem_mem hl1)
      rw [← HX.out] at hx
      obtain ⟨x, hxe⟩ : ∃ x, x = rd_T70 ps (k : Int) := ⟨_, rfl⟩
      rw [← hxe] at HX p0 p1 p2 p3 p4 hx
      clear hxe
      have HCL := Lib.hid (fun W => clean_any x.f0.data.toList (by rw [Array.length_toList]; exact hx.1) W)
      have hb0 : (⟨x.f0.data.toList.toArray⟩ : ByteArray) = x.f0 := by cases x.f0; simp
      rw [hb0] at HCL
      clear hb0
      obtain ⟨r1, hr1⟩ : ∃ r1, r1 = Int.tmod x.f1 6 := ⟨_, rfl⟩
      have hr1b : -6 < r1 ∧ r1 < 6 := by rw [hr1]; exact ⟨by have := Int.lt_tmod_of_pos x.f1 (show (0:Int) < 6 by decide); omega, by have := Int.tmod_lt_of_pos x.f1 (show (0:Int) < 6 by decide); omega⟩
      obtain ⟨q, hq⟩ : ∃ q : Nat, (q : Int) = Int.tmod (r1 + 6) 6 := ⟨(Int.tmod (r1 + 6) 6).toNat, by
        have := Int.tmod_nonneg 6 (show 0 ≤ r1 + 6 by omega); omega⟩
      have hq6 : q < 6 := by have := Int.tmod_lt_of_pos (r1 + 6) (show (0:Int) < 6 by decide); omega
      have HQ := Lib.hid (show kindN x.f1 = q by unfold kindN; rw [← hr1, ← hq, Int.toNat_natCast])
      have t1 : Int.tmod x.f1 6 = r1 := hr1.symm
      have t2 : Int.tmod (r1 + 6) 6 = (q : Int) := hq.symm
      have t3 : IntKind.i64.wrap r1 = r1 := by rw [IntKind.wrap_i64]; omega
      have t4 : IntKind.i64.wrap (r1 + 6) = r1 + 6 := by rw [IntKind.wrap_i64]; omega
      have t5 : IntKind.i64.wrap (q : Int) = (q : Int) := by rw [IntKind.wrap_i64]; omega
      clear hr1 hq
      have t6 : (0 : Int) ≤ (q : Int) := by omega
      have t7 : (q : Int) < 6 := by omega
      have t8 : (0 : Int) ≤ bits .and .i64 x.f2 3 := by rw [i64_and3]; omega
      have t9 : bits .and .i64 x.f2 3 ≤ 64 := by rw [i64_and3]; omega
      go_wp2
      obtain ⟨kq, hkq⟩ : ∃ kq, kq = kindL.getD q 0 := ⟨_, rfl⟩
      have HKQ := Lib.hid hkq
      have HXK := Lib.hid (show ∀ W, Below ((wr.alloc (.cells #[.string x.f0, .int .i64 x.f1, .int .i64 x.f2, .int .i64 x.f3, .string x.f4] 70)).alloc (.cells #[.int .u64 1, .int .u64 8, .int .u64 7, .int .u64 3, .int .u64 1879048193, .int .u64 14] 28)).heap.size ((wr.alloc (.cells #[.string x.f0, .int .i64 x.f1, .int .i64 x.f2, .int .i64 x.f3, .string x.f4] 70)).alloc (.cells #[.int .u64 1, .int .u64 8, .int .u64 7, .int .u64 3, .int .u64 1879048193, .int .u64 14] 28)) W → W.cell? ⟨wr.heap.size, 0, none⟩ = some (.string x.f0) ∧ W.cell? ⟨wr.heap.size, 1, none⟩ = some (.int .i64 x.f1) ∧ W.cell? ⟨wr.heap.size, 2, none⟩ = some (.int .i64 x.f2) ∧ W.cell? ⟨wr.heap.size, 3, none⟩ = some (.int .i64 x.f3) ∧ W.cell? ⟨wr.heap.size + 1, q, none⟩ = some (.int .u64 kq) from fun W hb => by
        have hx0 := blk_below (blk_alloc (blk_new wr (.cells #[.string x.f0, .int .i64 x.f1, .int .i64 x.f2, .int .i64 x.f3, .string x.f4] 70)) (.cells #[.int .u64 1, .int .u64 8, .int .u64 7, .int .u64 3, .int .u64 1879048193, .int .u64 14] 28)) hb
        have hk0 := blk_below (blk_new (wr.alloc (.cells #[.string x.f0, .int .i64 x.f1, .int .i64 x.f2, .int .i64 x.f3, .string x.f4] 70)) (.cells #[.int .u64 1, .int .u64 8, .int .u64 7, .int .u64 3, .int .u64 1879048193, .int .u64 14] 28)) hb
        rw [World.size_alloc] at hk0
        refine ⟨blk_cell hx0 0, blk_cell hx0 1, blk_cell hx0 2, blk_cell hx0 3, (blk_cell hk0 q).trans ?_⟩
        rw [hkq]
        rcases (by omega : q = 0 ∨ q = 1 ∨ q = 2 ∨ q = 3 ∨ q = 4 ∨ q = 5) with rfl | rfl | rfl | rfl | rfl | rfl <;> rfl)
      clear hkq
      have HX4 := Lib.hid (show ∀ W, Below ((wr.alloc (.cells #[.string x.f0, .int .i64 x.f1, .int .i64 x.f2, .int .i64 x.f3, .string x.f4] 70)).alloc (.cells #[.int .u64 1, .int .u64 8, .int .u64 7, .int .u64 3, .int .u64 1879048193, .int .u64 14] 28)).heap.size ((wr.alloc (.cells #[.string x.f0, .int .i64 x.f1, .int .i64 x.f2, .int .i64 x.f3, .string x.f4] 70)).alloc (.cells #[.int .u64 1, .int .u64 8, .int .u64 7, .int .u64 3, .int .u64 1879048193, .int .u64 14] 28)) W → W.heap[wr.heap.size]? = some (.cells #[.string x.f0, .int .i64 x.f1, .int .i64 x.f2, .int .i64 x.f3, .string x.f4] 70 (0, 0)) from fun W hb =>
        blk_below (blk_alloc (blk_new wr (.cells #[.string x.f0, .int .i64 x.f1, .int .i64 x.f2, .int .i64 x.f3, .string x.f4] 70)) (.cells #[.int .u64 1, .int .u64 8, .int .u64 7, .int .u64 3, .int .u64 1879048193, .int .u64 14] 28)) hb)
      have hwrX : wr.heap.size < ((wr.alloc (.cells #[.string x.f0, .int .i64 x.f1, .int .i64 x.f2, .int .i64 x.f3, .string x.f4] 70)).alloc (.cells #[.int .u64 1, .int .u64 8, .int .u64 7, .int .u64 3, .int .u64 1879048193, .int .u64 14] 28)).heap.size := by simp; omega
      obtain ⟨wX, hwX⟩ : ∃ wX, wX = (wr.alloc (.cells #[.string x.f0, .int .i64 x.f1, .int .i64 x.f2, .int .i64 x.f3, .string x.f4] 70)).alloc (.cells #[.int .u64 1, .int .u64 8, .int .u64 7, .int .u64 3, .int .u64 1879048193, .int .u64 14] 28) := ⟨_, rfl⟩
      have HBX := Lib.hid (show Below w.heap.size w wX by rw [hwX]; exact (HB.out.alloc HB.out.size _).alloc (Nat.le_trans HB.out.size (by simp)) _)
      have HOX := Lib.hid (show Kd.R k61 61 wX w.heap.size (fun _ => True) u3 ([z61, nameS] ++ (ps.take k).map secR) by rw [hwX]; exact Kd.R_alloc (Kd.R_alloc HO.out _) _)
      have HPX := Lib.hid (show wX.heap[w.heap.size]? = some (.cells #[.int .i64 fl, .slice (some ad) ps.length c, v1, v2, v3] 27 (0, 0)) by rw [hwX]; exact blk_alloc (blk_alloc HP.out _) _)
      rw [← hwX] at HXK HX4 hwrX ⊢
      have hwX0 : w.heap.size < wX.heap.size := Nat.lt_of_le_of_lt HB.out.size hwrX
      clear hwX HO HB HP q1 p0 p1 p2 p3 p4
      go_region_held3 (fun w' => w'.cell? ⟨wr.heap.size, 0, none⟩ = some (.string x.f0) ∧ w'.cell? ⟨wr.heap.size, 1, none⟩ = some (.int .i64 x.f1) ∧ w'.cell? ⟨wr.heap.size, 2, none⟩ = some (.int .i64 x.f2) ∧ w'.cell? ⟨wr.heap.size, 3, none⟩ = some (.int .i64 x.f3) ∧ w'.cell? ⟨wr.heap.size + 1, q, none⟩ = some (.int .u64 kq))
        (first | exact HXK.out _ (Go.below_drewN (Below.refl _ _) 1) | exact HXK.out _ (Below.refl _ _) | exact HXK.out _ ((Go.below_drewN (Below.refl _ _) 1).alloc (Nat.le_refl _) _) | exact HXK.out _ ((Below.refl _ _).alloc (Nat.le_refl _) _))
        (first | (go_at_call 26; refine (HCL.out _).mono ?_; rintro e w4 ⟨rfl, rfl⟩))
      all_goals (
        obtain ⟨al, hal⟩ : ∃ al, al = IntKind.u64.wrap (2 ^ (bits .and .i64 x.f2 3).toNat) := ⟨_, rfl⟩
        obtain ⟨nm, hnm⟩ : ∃ nm : ByteArray, nm = ⟨(cleanL x.f0.data.toList).toArray⟩ := ⟨_, rfl⟩
        obtain ⟨f2, hf2⟩ : ∃ f2, f2 = IntKind.u64.wrap (bits .and .i64 x.f3 7) := ⟨_, rfl⟩
        obtain ⟨f3, hf3⟩ : ∃ f3, f3 = IntKind.u64.wrap (bits .and .i64 x.f3 4095) := ⟨_, rfl⟩
        rw [← hal, ← hnm, ← hf2, ← hf3]
        obtain ⟨w5, hw5⟩ : ∃ w5, w5 = (wX.alloc (.cells #[.string nm, .int .u64 kq, .int .u64 f2, .int .u64 f3, .int .u64 0, .int .u64 0, .int .u64 al, .int .u64 0, .int .u64 0, .string ⟨#[]⟩, .slice none 0 0, .slice none 0 0, .slice none 0 0] 61)).drew := ⟨_, rfl⟩
        have hbx5 : Below wX.heap.size wX w5 := by rw [hw5]; exact Go.below_drewN ((Below.refl _ _).alloc (Nat.le_refl _) _) 1
        have HY := Lib.hid (show w5.heap[wX.heap.size]? = some (.cells #[.string nm, .int .u64 kq, .int .u64 f2, .int .u64 f3, .int .u64 0, .int .u64 0, .int .u64 al, .int .u64 0, .int .u64 0, .string ⟨#[]⟩, .slice none 0 0, .slice none 0 0, .slice none 0 0] 61 (0, 0)) by rw [hw5]; exact blk_new wX _)
        have HO5 := Lib.hid (Kd.R_below (Kd.R_mono (ok' := fun k => k ≠ wX.heap.size) (Kd.R_bound HOX.out) (fun k hk => Nat.ne_of_lt hk.2.2.1)) hbx5)
        obtain ⟨XS, hXS⟩ : ∃ XS, XS = [z61, nameS] ++ (ps.take k).map secR := ⟨_, rfl⟩
        have hXL : (XS.length + 1) * 168 ≤ 140737488355328 := by rw [hXS, List.length_append, List.length_map, List.length_take]; simp only [List.length_cons, List.length_nil]; omega
        rw [← hXS] at HO5
        have HXS := Lib.hid hXS
        clear hXS
        have HB5 := Lib.hid (HBX.out.trans (hbx5.mono HBX.out.size))
        have HP5 := Lib.hid (blk_below HPX.out hbx5)
        have HX5 := Lib.hid (HX4.out w5 hbx5)
        rw [← hw5]
        have hyl : wX.heap.size < w5.heap.size := blk_lt HY.out
        have hbl := HB5.out.size
        have HXB := Lib.hid (show w.heap.size ≤ wX.heap.size from HBX.out.size)
        have HAL := Lib.hid hal
        have HNM := Lib.hid hnm
        have HF2 := Lib.hid hf2
        have HF3 := Lib.hid hf3
        clear hw5 hbx5 HXK HX4 HOX HPX HBX hal hnm hf2 hf3
        have x2 := blk_cell HX5.out 2
        have x4 := blk_cell HX5.out 4
        simp only [List.getElem?_toArray, List.getElem?_cons_succ, List.getElem?_cons_zero] at x2 x4
        have y0 := blk_cell HY.out 0
        have y1 := blk_cell HY.out 1
        have y2 := blk_cell HY.out 2
        have y3 := blk_cell HY.out 3
        have y4 := blk_cell HY.out 4
        have y5 := blk_cell HY.out 5
        have y6 := blk_cell HY.out 6
        have y7 := blk_cell HY.out 7
        have y8 := blk_cell HY.out 8
        have y9 := blk_cell HY.out 9
        have y10 := blk_cell HY.out 10
        have y11 := blk_cell HY.out 11
        have y12 := blk_cell HY.out 12
        simp only [List.getElem?_toArray, List.getElem?_cons_succ, List.getElem?_cons_zero] at y0 y1 y2 y3 y4 y5 y6 y7 y8 y9 y10 y11 y12
        have z6 := blk_frozen HY.out 6
        have z8 := blk_frozen HY.out 8
        have z9 := blk_frozen HY.out 9
        have hne : wr.heap.size ≠ wX.heap.size := Nat.ne_of_lt hwrX
        by_cases h4 : bits .and .i64 x.f2 4 = 4
        · have e4 : (bits .and .i64 x.f2 4 == 4) = true := beq_iff_eq.2 h4
          by_cases h8 : kq = 8
          · have e8 : (kq == 8) = true := beq_iff_eq.2 h8
            have HE8 := Lib.hid h8
            have HE4 := Lib.hid h4
            clear h8 h4
            go_wp2_with (first | (at_builtin; refine Kd.R_append k61 (w0 := w) w.heap.size rfl (.tmp 73) (.tmp 75) 31 61 _ _ rfl Tryd.underlying31 info61 rfl (by decide) (by omega) u3 XS (⟨nm, kq, f2, f3, 0, 0, 0, 0, (x.f4.size : Int), ⟨#[]⟩, [], [], []⟩ : S61) _ (fun k => k ≠ wX.heap.size) (fun _ => False) rfl (by first | rfl | (simp only [World.size_setCell]; rfl) | (simp; done)) (k61_mkM _ _ _ _ (Kd.R_nil _ _ _ _ _) (Kd.R_nil _ _ _ _ _) (Kd.R_nil _ _ _ _ _)) (fun _ h => h.elim) ?aF (by repeat (first | exact HO5.out | refine Kd.R_far ?_ (fun k hk => hk) _)) (by repeat (first | exact HB5.out | refine Below.setCell ?_ HXB.out _)) ?aS ?aL ?_))
            case aF => intro k h; have h2 : w5.heap.size ≤ k := (by first | exact h | (simp only [World.size_setCell] at h; exact h)); exact (Nat.ne_of_lt (Nat.lt_of_lt_of_le hyl h2)).symm
            case aS => first | exact hbl | (simp only [World.size_setCell]; exact hbl)
            case aL => exact hXL
            intro v6 w6 hR6 hB6 hG6 hat6
            have HP6 := Lib.hid (blk_grown (o := .cells #[.int .i64 fl, .slice (some ad) ps.length c, v1, v2, v3] 27 (0, 0)) (by repeat (first | exact HP5.out | refine blk_far ?_ (Nat.ne_of_lt hwX0) _)) hG6 (Kd.R_ne HO5.out HP5.out (by decide)))
            have HR6 := Lib.hid (Kd.R_mono (ok' := fun _ => True) hR6 (fun _ _ => trivial))
            have HB6 := Lib.hid hB6
            clear hR6 hB6 hG6 hat6
            have hsec : secR x = (⟨nm, kq, f2, f3, 0, 0, 0, 0, (x.f4.size : Int), ⟨#[]⟩, [], [], []⟩ : S61) := by
              unfold secR
              rw [HQ.out, ← HKQ.out, ← HF2.out, ← HF3.out, if_pos HE4.out, if_pos HE8.out, if_pos HE8.out]
              rw [HNM.out]; rfl
            clear y0 y1 y2 y3 y4 y5 y6 y7 y8 y9 y10 y11 y12 z6 z8 z9 x2 x4 t1 t2 t3 t4 t5 t8 t9
            go_wp2
            go_roundw
            case rel =>
              refine ⟨k + 1, by omega, by omega, by go_num, Lib.hid ?_, HB6, HP6⟩
              have h := HR6.out
              rw [← hsec, HXS.out, List.append_assoc] at h
              rw [List.take_succ_eq_append_getElem hl1, List.map_append, ← HX.out]
              exact h
            case measure => simp [intOf]; omega
          · have e8 : (kq == 8) = false := beq_eq_false_iff_ne.2 h8
            have HE8 := Lib.hid h8
            have HE4 := Lib.hid h4
            clear h8 h4
            obtain ⟨m5, hm5⟩ : ∃ m5, m5 = min x.f4.size 50 := ⟨_, rfl⟩
            have HM5 := Lib.hid hm5
            have hmn : (if (50 : Int) < (x.f4.size : Int) then (50 : Int) else (x.f4.size : Int)) = (m5 : Int) := by split <;> omega
            have hm5l : (m5 : Int) ≤ (x.f4.size : Int) := by omega
            have hm50 : (0 : Int) ≤ (m5 : Int) := by omega
            clear hm5
            go_wp2_with (first | (at_builtin; refine Kd.R_append k61 (w0 := w) w.heap.size rfl (.tmp 73) (.tmp 75) 31 61 _ _ rfl Tryd.underlying31 info61 rfl (by decide) (by omega) u3 XS (⟨nm, kq, f2, f3, 0, 0, 0, 0, 0, x.f4.extract 0 m5, [], [], []⟩ : S61) _ (fun k => k ≠ wX.heap.size) (fun _ => False) rfl (by first | rfl | (simp only [World.size_setCell]; rfl) | (simp; done)) (k61_mkM _ _ _ _ (Kd.R_nil _ _ _ _ _) (Kd.R_nil _ _ _ _ _) (Kd.R_nil _ _ _ _ _)) (fun _ h => h.elim) ?aF (by repeat (first | exact HO5.out | refine Kd.R_far ?_ (fun k hk => hk) _)) (by repeat (first | exact HB5.out | refine Below.setCell ?_ HXB.out _)) ?aS ?aL ?_))
            case aF => intro k h; have h2 : w5.heap.size ≤ k := (by first | exact h | (simp only [World.size_setCell] at h; exact h)); exact (Nat.ne_of_lt (Nat.lt_of_lt_of_le hyl h2)).symm
            case aS => first | exact hbl | (simp only [World.size_setCell]; exact hbl)
            case aL => exact hXL
            intro v6 w6 hR6 hB6 hG6 hat6
            have HP6 := Lib.hid (blk_grown (o := .cells #[.int .i64 fl, .slice (some ad) ps.length c, v1, v2, v3] 27 (0, 0)) (by repeat (first | exact HP5.out | refine blk_far ?_ (Nat.ne_of_lt hwX0) _)) hG6 (Kd.R_ne HO5.out HP5.out (by decide)))
            have HR6 := Lib.hid (Kd.R_mono (ok' := fun _ => True) hR6 (fun _ _ => trivial))
            have HB6 := Lib.hid hB6
            clear hR6 hB6 hG6 hat6
            have hsec : secR x = (⟨nm, kq, f2, f3, 0, 0, 0, 0, 0, x.f4.extract 0 m5, [], [], []⟩ : S61) := by
              unfold secR
              rw [HQ.out, ← HKQ.out, ← HF2.out, ← HF3.out, if_pos HE4.out, if_neg HE8.out, if_neg HE8.out, ← HM5.out]
              rw [HNM.out]; rfl
            clear y0 y1 y2 y3 y4 y5 y6 y7 y8 y9 y10 y11 y12 z6 z8 z9 x2 x4 t1 t2 t3 t4 t5 t8 t9
            go_wp2
            go_roundw
            case rel =>
              refine ⟨k + 1, by omega, by omega, by go_num, Lib.hid ?_, HB6, HP6⟩
              have h := HR6.out
              rw [← hsec, HXS.out, List.append_assoc] at h
              rw [List.take_succ_eq_append_getElem hl1, List.map_append, ← HX.out]
              exact h
            case measure => simp [intOf]; omega
        · have e4 : (bits .and .i64 x.f2 4 == 4) = false := beq_eq_false_iff_ne.2 h4
          by_cases h8 : kq = 8
          · have e8 : (kq == 8) = true := beq_iff_eq.2 h8
            have HE8 := Lib.hid h8
            have HE4 := Lib.hid h4
            clear h8 h4
            go_wp2_with (first | (at_builtin; refine Kd.R_append k61 (w0 := w) w.heap.size rfl (.tmp 73) (.tmp 75) 31 61 _ _ rfl Tryd.underlying31 info61 rfl (by decide) (by omega) u3 XS (⟨nm, kq, f2, f3, 0, 0, al, 0, (x.f4.size : Int), ⟨#[]⟩, [], [], []⟩ : S61) _ (fun k => k ≠ wX.heap.size) (fun _ => False) rfl (by first | rfl | (simp only [World.size_setCell]; rfl) | (simp; done)) (k61_mkM _ _ _ _ (Kd.R_nil _ _ _ _ _) (Kd.R_nil _ _ _ _ _) (Kd.R_nil _ _ _ _ _)) (fun _ h => h.elim) ?aF (by repeat (first | exact HO5.out | refine Kd.R_far ?_ (fun k hk => hk) _)) (by repeat (first | exact HB5.out | refine Below.setCell ?_ HXB.out _)) ?aS ?aL ?_))
            case aF => intro k h; have h2 : w5.heap.size ≤ k := (by first | exact h | (simp only [World.size_setCell] at h; exact h)); exact (Nat.ne_of_lt (Nat.lt_of_lt_of_le hyl h2)).symm
            case aS => first | exact hbl | (simp only [World.size_setCell]; exact hbl)
            case aL => exact hXL
            intro v6 w6 hR6 hB6 hG6 hat6
            have HP6 := Lib.hid (blk_grown (o := .cells #[.int .i64 fl, .slice (some ad) ps.length c, v1, v2, v3] 27 (0, 0)) (by repeat (first | exact HP5.out | refine blk_far ?_ (Nat.ne_of_lt hwX0) _)) hG6 (Kd.R_ne HO5.out HP5.out (by decide)))
            have HR6 := Lib.hid (Kd.R_mono (ok' := fun _ => True) hR6 (fun _ _ => trivial))
            have HB6 := Lib.hid hB6
            clear hR6 hB6 hG6 hat6
            have hsec : secR x = (⟨nm, kq, f2, f3, 0, 0, al, 0, (x.f4.size : Int), ⟨#[]⟩, [], [], []⟩ : S61) := by
              unfold secR
              rw [HQ.out, ← HKQ.out, ← HF2.out, ← HF3.out, if_neg HE4.out, ← HAL.out, if_pos HE8.out, if_pos HE8.out]
              rw [HNM.out]; rfl
            clear y0 y1 y2 y3 y4 y5 y6 y7 y8 y9 y10 y11 y12 z6 z8 z9 x2 x4 t1 t2 t3 t4 t5 t8 t9
            go_wp2
            go_roundw
            case rel =>
              refine ⟨k + 1, by omega, by omega, by go_num, Lib.hid ?_, HB6, HP6⟩
              have h := HR6.out
              rw [← hsec, HXS.out, List.append_assoc] at h
              rw [List.take_succ_eq_append_getElem hl1, List.map_append, ← HX.out]
              exact h
            case measure => simp [intOf]; omega
          · have e8 : (kq == 8) = false := beq_eq_false_iff_ne.2 h8
            have HE8 := Lib.hid h8
            have HE4 := Lib.hid h4
            clear h8 h4
            obtain ⟨m5, hm5⟩ : ∃ m5, m5 = min x.f4.size 50 := ⟨_, rfl⟩
            have HM5 := Lib.hid hm5
            have hmn : (if (50 : Int) < (x.f4.size : Int) then (50 : Int) else (x.f4.size : Int)) = (m5 : Int) := by split <;> omega
            have hm5l : (m5 : Int) ≤ (x.f4.size : Int) := by omega
            have hm50 : (0 : Int) ≤ (m5 : Int) := by omega
            clear hm5
            go_wp2_with (first | (at_builtin; refine Kd.R_append k61 (w0 := w) w.heap.size rfl (.tmp 73) (.tmp 75) 31 61 _ _ rfl Tryd.underlying31 info61 rfl (by decide) (by omega) u3 XS (⟨nm, kq, f2, f3, 0, 0, al, 0, 0, x.f4.extract 0 m5, [], [], []⟩ : S61) _ (fun k => k ≠ wX.heap.size) (fun _ => False) rfl (by first | rfl | (simp only [World.size_setCell]; rfl) | (simp; done)) (k61_mkM _ _ _ _ (Kd.R_nil _ _ _ _ _) (Kd.R_nil _ _ _ _ _) (Kd.R_nil _ _ _ _ _)) (fun _ h => h.elim) ?aF (by repeat (first | exact HO5.out | refine Kd.R_far ?_ (fun k hk => hk) _)) (by repeat (first | exact HB5.out | refine Below.setCell ?_ HXB.out _)) ?aS ?aL ?_))
            case aF => intro k h; have h2 : w5.heap.size ≤ k := (by first | exact h | (simp only [World.size_setCell] at h; exact h)); exact (Nat.ne_of_lt (Nat.lt_of_lt_of_le hyl h2)).symm
            case aS => first | exact hbl | (simp only [World.size_setCell]; exact hbl)
            case aL => exact hXL
            intro v6 w6 hR6 hB6 hG6 hat6
            have HP6 := Lib.hid (blk_grown (o := .cells #[.int .i64 fl, .slice (some ad) ps.length c, v1, v2, v3] 27 (0, 0)) (by repeat (first | exact HP5.out | refine blk_far ?_ (Nat.ne_of_lt hwX0) _)) hG6 (Kd.R_ne HO5.out HP5.out (by decide)))
            have HR6 := Lib.hid (Kd.R_mono (ok' := fun _ => True) hR6 (fun _ _ => trivial))
            have HB6 := Lib.hid hB6
            clear hR6 hB6 hG6 hat6
            have hsec : secR x = (⟨nm, kq, f2, f3, 0, 0, al, 0, 0, x.f4.extract 0 m5, [], [], []⟩ : S61) := by
              unfold secR
              rw [HQ.out, ← HKQ.out, ← HF2.out, ← HF3.out, if_neg HE4.out, ← HAL.out, if_neg HE8.out, if_neg HE8.out, ← HM5.out]
              rw [HNM.out]; rfl
            clear y0 y1 y2 y3 y4 y5 y6 y7 y8 y9 y10 y11 y12 z6 z8 z9 x2 x4 t1 t2 t3 t4 t5 t8 t9
            go_wp2
            go_roundw
            case rel =>
              refine ⟨k + 1, by omega, by omega, by go_num, Lib.hid ?_, HB6, HP6⟩
              have h := HR6.out
              rw [← hsec, HXS.out, List.append_assoc] at h
              rw [List.take_succ_eq_append_getElem hl1, List.map_append, ← HX.out]
              exact h
            case measure => simp [intOf]; omega)
    · have hT : ps.take k = ps.take 6 := by
        by_cases h : k = 6
        · rw [h]
        · rw [List.take_of_length_le (by omega), List.take_of_length_le (by omega)]
      rw [hT] at HO
      by_cases h : k < ps.length
      · have h2 : ¬ k < 6 := by omega
        go_wp2
        go_ret
        exact ⟨_, rfl, HO.out, HB.out⟩
      · go_wp2
        go_ret
        exact ⟨_, rfl, HO.out, HB.out⟩
end Go.Proofs.YtkbamfiokhmpjaaDoor

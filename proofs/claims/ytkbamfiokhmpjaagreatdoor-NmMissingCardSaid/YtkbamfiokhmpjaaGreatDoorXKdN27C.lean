/- nm.names by a closure (graver/nm.Missing$1). -/
import Derived.Test.YtkbamfiokhmpjaaGreatDoorXKdN27B
namespace Go.Proofs.YtkbamfiokhmpjaaGreatDoor
set_option linter.unusedVariables false
set_option linter.unusedSimpArgs false
open Go.RowKit Go.Proofs.YtkbamfiokhmpjaaGreatDoorX.Kd Go.Proofs.YtkbamfiokhmpjaaGreatDoorW.PrintWords Go.Proofs.YtkbamfiokhmpjaaGreatDoorW.PrintLast Go.Proofs.YtkbamfiokhmpjaaGreatDoorW.PrintMore

set_option maxRecDepth 100000 in
set_option maxHeartbeats 16000000 in
theorem names_tDef (ms : List MdD) (hms : okMs ms) (A : Option Addr) (ca : Nat) (w : World) (hC : Kd.C kMod w A ms.length ms) :
    Calls Tryz.prog 13 #[.slice A ms.length ca, .func (.func 14) #[] #[]] w fun e w' => ∃ g n, e = .returned (.map (some g)) ∧ w.heap.size ≤ g ∧ n ≤ 1000 ∧ w'.ownsMap Tryz.prog 9 (plainElem (H := Unit) Tryz.prog 3) g n (cntD (incsM tDef ms)) ∧ Below w.heap.size w w' := by
  have HC := Lib.hid hC
  have HMS := Lib.hid hms
  have hm4 := hms.1
  clear hC hms
  go_enter Tryz.func13, Tryz.ntmps13
  have hmm := @run_makeMap Tryz.prog
  go_upto_region 2 with (fail)
  obtain ⟨w1, hw1⟩ : ∃ w1, w1 = w.alloc (.map #[] 0) := ⟨_, rfl⟩
  obtain ⟨gO, hgO⟩ : ∃ gO, gO = w.heap.size := ⟨_, rfl⟩
  have HO1 := Lib.hid (show w1.ownsMap Tryz.prog 9 (plainElem (H := Unit) Tryz.prog 3) gO 0 (cntD []) from by rw [hw1, hgO]; exact World.ownsMap_made _ _ _ _)
  have HB1 := Lib.hid (show Below w.heap.size w w1 from by rw [hw1]; exact below_alloc (Below.refl _ _) _)
  have HGO := Lib.hid (show w.heap.size ≤ gO from by rw [hgO]; exact Nat.le_refl _)
  rw [← hw1, ← hgO]
  clear hw1 hgO
  go_wp2
  go_loopw [16] (fun i wr => ∃ (k n : Nat), k ≤ ms.length ∧ i = .int .i64 k ∧ Hid (wr.ownsMap Tryz.prog 9 (plainElem (H := Unit) Tryz.prog 3) gO n (cntD (incsM tDef (ms.take k))) ∧ (n ≤ 230 * k ∧ (incsM tDef (ms.take k)).length ≤ n) ∧ Below w.heap.size w wr)) (fun i _ => ms.length - (intOf i).toNat)
  case atStart => exact ⟨0, 0, Nat.zero_le _, rfl, Lib.hid ⟨HO1.out, ⟨Nat.le_refl _, Nat.le_refl _⟩, HB1.out⟩⟩
  case round =>
    obtain ⟨k, n0, hk, rfl, HR⟩ := hrel
    clear HO1 HB1
    by_cases hlt : k < ms.length
    · obtain ⟨ad, A9, c9, A10, c10, hA, x0, x1, x2, x3, x4, x5, x6, x7, x8, x9, x10, x11, l9, g9⟩ := at_Mod HC.out k hlt hlt
      subst hA
      have hB := HR.out.2.2
      replace x0 := (hB.cell (World.block_lt_of_cell? w _ x0)).trans x0
      replace x1 := (hB.cell (World.block_lt_of_cell? w _ x1)).trans x1
      replace x2 := (hB.cell (World.block_lt_of_cell? w _ x2)).trans x2
      replace x3 := (hB.cell (World.block_lt_of_cell? w _ x3)).trans x3
      replace x4 := (hB.cell (World.block_lt_of_cell? w _ x4)).trans x4
      replace x5 := (hB.cell (World.block_lt_of_cell? w _ x5)).trans x5
      replace x6 := (hB.cell (World.block_lt_of_cell? w _ x6)).trans x6
      replace x7 := (hB.cell (World.block_lt_of_cell? w _ x7)).trans x7
      replace x8 := (hB.cell (World.block_lt_of_cell? w _ x8)).trans x8
      replace x9 := (hB.cell (World.block_lt_of_cell? w _ x9)).trans x9
      replace x10 := (hB.cell (World.block_lt_of_cell? w _ x10)).trans x10
      replace x11 := (hB.cell (World.block_lt_of_cell? w _ x11)).trans x11
      have HIS := Lib.hid (incsM_succ tDef ms k hlt)
      have HOK := Lib.hid (HMS.out.2 ms[k] (List.getElem_mem hlt))
      obtain ⟨md, hmd⟩ : ∃ md, md = ms[k] := ⟨_, rfl⟩
      rw [← hmd] at x0 x1 x2 x3 x4 x5 x6 x7 x8 x9 x10 x11 l9 g9 HIS HOK
      have HL := Lib.hid g9
      have HLT := Lib.hid hlt
      have km : (k : Int) < (ms.length : Int) := by omega
      have km0 : (0 : Int) ≤ (k : Int) := by omega
      have kw : IntKind.i64.wrap ((k : Int) + 1) = ((k + 1 : Nat) : Int) := by rw [IntKind.wrap_i64]; omega
      have hk4 : k < 4 := by omega
      clear hmd g9 hB hlt
      go_upto_region 6 with (fail)
      obtain ⟨wS, hwS⟩ : ∃ wS, wS = (wr.alloc (.cells #[.bool md.big, .bool md.wide, .int .u8 md.abi, .int .u8 md.ver, .string md.pad, .int .u64 md.ty, .int .u64 md.mc, .int .u64 md.en, .int .u64 md.fg, .int .u64 md.nm, .slice A9 md.L.length c9, .slice A10 md.D.length c10] 48)).alloc (.map #[] 0) := ⟨_, rfl⟩
      obtain ⟨gS, hgS⟩ : ∃ gS, gS = wr.heap.size + 1 := ⟨_, rfl⟩
      have HS0 := Lib.hid (show wS.ownsMap Tryz.prog 9 (plainElem (H := Unit) Tryz.prog 4) gS 0 (nameD []) from by
        have h := World.ownsMap_made (wr.alloc (.cells #[.bool md.big, .bool md.wide, .int .u8 md.abi, .int .u8 md.ver, .string md.pad, .int .u64 md.ty, .int .u64 md.mc, .int .u64 md.en, .int .u64 md.fg, .int .u64 md.nm, .slice A9 md.L.length c9, .slice A10 md.D.length c10] 48)) Tryz.prog 9 (plainElem (H := Unit) Tryz.prog 4)
        rw [World.size_alloc] at h
        rw [hwS, hgS]; exact h)
      have HO0 := Lib.hid (show wS.ownsMap Tryz.prog 9 (plainElem (H := Unit) Tryz.prog 3) gO n0 (cntD (incsM tDef (ms.take k))) from by rw [hwS]; exact owns_below HR.out.1 (below_alloc (below_alloc (Below.refl _ _) _) _))
      have HB0 := Lib.hid (show Below w.heap.size w wS from by rw [hwS]; exact below_alloc (below_alloc HR.out.2.2 _) _)
      have HN0 := Lib.hid HR.out.2.1
      have HGS := Lib.hid (show w.heap.size ≤ gS ∧ gO ≠ gS from by rw [hgS]; exact ⟨by have := HR.out.2.2.size; omega, by have := owns_lt HR.out.1; omega⟩)
      have z10 := (blk_cell (show wS.heap[wr.heap.size]? = some (.cells #[.bool md.big, .bool md.wide, .int .u8 md.abi, .int .u8 md.ver, .string md.pad, .int .u64 md.ty, .int .u64 md.mc, .int .u64 md.en, .int .u64 md.fg, .int .u64 md.nm, .slice A9 md.L.length c9, .slice A10 md.D.length c10] 48 (0, 0)) by rw [hwS]; exact blk_alloc (blk_new wr _) _) 10).trans rfl
      rw [← hwS, ← hgS]
      clear hwS hgS x0 x1 x2 x3 x4 x5 x6 x7 x8 x9 x10 x11 HR
      obtain ⟨st, hst⟩ : ∃ st, st = incsM tDef (ms.take k) := ⟨_, rfl⟩
      rw [← hst] at HO0 HIS HN0
      clear hst
      go_wp2
      clear z10
      go_loopw [24] (fun i wx => ∃ (k2 nS nO : Nat), k2 ≤ md.L.length ∧ i = .int .i64 k2 ∧ Hid (wx.ownsMap Tryz.prog 9 (plainElem (H := Unit) Tryz.prog 4) gS nS (nameD (seenM tDef (md.L.take k2))) ∧ wx.ownsMap Tryz.prog 9 (plainElem (H := Unit) Tryz.prog 3) gO nO (cntD (seenM tDef (md.L.take k2) ++ st)) ∧ nS ≤ 17 * k2 ∧ (nO ≤ n0 + 17 * k2 ∧ (seenM tDef (md.L.take k2) ++ st).length ≤ nO) ∧ Below w.heap.size w wx)) (fun i _ => md.L.length - (intOf i).toNat)
      case atStart => exact ⟨0, 0, n0, Nat.zero_le _, rfl, Lib.hid ⟨HS0.out, HO0.out, Nat.le_refl _, ⟨Nat.le_refl _, HN0.out.2⟩, HB0.out⟩⟩
      case round =>
        obtain ⟨k2, nS2, nO2, hk2, rfl, HR2⟩ := hrel
        clear HS0 HO0 HB0
        by_cases hlt2 : k2 < md.L.length
        · obtain ⟨ad2, B10, e10, B11, e11, B12, e12, hA, hx0, hx1, hx2, hx3, hx4, hx5, hx6, hx7, hx8, hx9, hx10, hx11, hx12, le10, hi10, _⟩ := at_T80 HL.out (k2 : Int) (by omega) (by omega)
          subst hA
          have hB := HR2.out.2.2.2.2
          rw [Int.toNat_natCast] at hx0 hx1 hx2 hx3 hx4 hx5 hx6 hx7 hx8 hx9 hx10 hx11 hx12
          replace hx0 := (hB.cell (World.block_lt_of_cell? w _ hx0)).trans hx0
          replace hx1 := (hB.cell (World.block_lt_of_cell? w _ hx1)).trans hx1
          replace hx2 := (hB.cell (World.block_lt_of_cell? w _ hx2)).trans hx2
          replace hx3 := (hB.cell (World.block_lt_of_cell? w _ hx3)).trans hx3
          replace hx4 := (hB.cell (World.block_lt_of_cell? w _ hx4)).trans hx4
          replace hx5 := (hB.cell (World.block_lt_of_cell? w _ hx5)).trans hx5
          replace hx6 := (hB.cell (World.block_lt_of_cell? w _ hx6)).trans hx6
          replace hx7 := (hB.cell (World.block_lt_of_cell? w _ hx7)).trans hx7
          replace hx8 := (hB.cell (World.block_lt_of_cell? w _ hx8)).trans hx8
          replace hx9 := (hB.cell (World.block_lt_of_cell? w _ hx9)).trans hx9
          replace hx10 := (hB.cell (World.block_lt_of_cell? w _ hx10)).trans hx10
          replace hx11 := (hB.cell (World.block_lt_of_cell? w _ hx11)).trans hx11
          replace hx12 := (hB.cell (World.block_lt_of_cell? w _ hx12)).trans hx12
          have HCX := Lib.hid (show rd_T80 md.L (k2 : Int) = md.L[k2] by unfold rd_T80; rw [Int.toNat_natCast]; simp [List.getD, hlt2])
          obtain ⟨c, hce⟩ : ∃ c, c = rd_T80 md.L (k2 : Int) := ⟨_, rfl⟩
          rw [← hce] at HCX hx0 hx1 hx2 hx3 hx4 hx5 hx6 hx7 hx8 hx9 hx10 hx11 hx12 le10 hi10
          have HSM := Lib.hid (seenM_succ tDef md.L k2 hlt2)
          have HOC := Lib.hid (HOK.out.2 md.L[k2] (List.getElem_mem hlt2))
          rw [← HCX.out] at HSM HOC
          have HY := Lib.hid hi10
          have HLT2 := Lib.hid hlt2
          have hk13 : k2 < 13 := Nat.lt_of_lt_of_le hlt2 HOK.out.1
          have hc17 := HOC.out.1
          have km2 : (k2 : Int) < (md.L.length : Int) := by omega
          have km20 : (0 : Int) ≤ (k2 : Int) := by omega
          have kw2 : IntKind.i64.wrap ((k2 : Int) + 1) = ((k2 + 1 : Nat) : Int) := by rw [IntKind.wrap_i64]; omega
          clear hce hi10 hB
          go_upto_region 9 with (fail)
          obtain ⟨wC, hwC⟩ : ∃ wC, wC = wr.alloc (.cells #[.string c.f0, .int .u64 c.f1, .int .u64 c.f2, .int .u64 c.f3, .int .u64 c.f4, .int .u64 c.f5, .int .u64 c.f6, .int .u64 c.f7, .int .u64 c.f8, .string c.f9, .slice B10 c.f10.length e10, .slice B11 c.f11.length e11, .slice B12 c.f12.length e12] 80) := ⟨_, rfl⟩
          have HM2 := Lib.hid (show wC.ownsMap Tryz.prog 9 (plainElem (H := Unit) Tryz.prog 4) gS nS2 (nameD (seenM tDef (md.L.take k2))) ∧ wC.ownsMap Tryz.prog 9 (plainElem (H := Unit) Tryz.prog 3) gO nO2 (cntD (seenM tDef (md.L.take k2) ++ st)) ∧ nS2 ≤ 17 * k2 ∧ (nO2 ≤ n0 + 17 * k2 ∧ (seenM tDef (md.L.take k2) ++ st).length ≤ nO2) ∧ Below w.heap.size w wC from by
            rw [hwC]; exact ⟨owns_below HR2.out.1 (below_alloc (Below.refl _ _) _), owns_below HR2.out.2.1 (below_alloc (Below.refl _ _) _), HR2.out.2.2.1, HR2.out.2.2.2.1, below_alloc HR2.out.2.2.2.2 _⟩)
          have z10 := (blk_cell (show wC.heap[wr.heap.size]? = some (.cells #[.string c.f0, .int .u64 c.f1, .int .u64 c.f2, .int .u64 c.f3, .int .u64 c.f4, .int .u64 c.f5, .int .u64 c.f6, .int .u64 c.f7, .int .u64 c.f8, .string c.f9, .slice B10 c.f10.length e10, .slice B11 c.f11.length e11, .slice B12 c.f12.length e12] 80 (0, 0)) by rw [hwC]; exact blk_new wr _) 10).trans rfl
          rw [← hwC]
          clear hwC hx0 hx1 hx2 hx3 hx4 hx5 hx6 hx7 hx8 hx9 hx10 hx11 hx12 HR2
          obtain ⟨cu, hcu⟩ : ∃ cu, cu = seenM tDef (md.L.take k2) := ⟨_, rfl⟩
          rw [← hcu] at HM2 HSM
          clear hcu
          go_wp2
          clear z10
          go_loopw [31] (fun i wx => ∃ (k3 nS nO : Nat), k3 ≤ c.f10.length ∧ i = .int .i64 k3 ∧ Hid (wx.ownsMap Tryz.prog 9 (plainElem (H := Unit) Tryz.prog 4) gS nS (nameD (seenK tDef cu c k3)) ∧ wx.ownsMap Tryz.prog 9 (plainElem (H := Unit) Tryz.prog 3) gO nO (cntD (seenK tDef cu c k3 ++ st)) ∧ nS ≤ 17 * k2 + k3 ∧ (nO ≤ n0 + 17 * k2 + k3 ∧ (seenK tDef cu c k3 ++ st).length ≤ nO) ∧ Below w.heap.size w wx)) (fun i _ => c.f10.length - (intOf i).toNat)
          case atStart => exact ⟨0, nS2, nO2, Nat.zero_le _, rfl, Lib.hid (by rw [seenK_zero]; exact HM2.out)⟩
          case round =>
            obtain ⟨k3, nS3, nO3, hk3, rfl, HR3⟩ := hrel
            clear HM2
            by_cases hlt3 : k3 < c.f10.length
            · obtain ⟨ad3, hA, hy0, hy1, hy2, hy3, hy4, hy5, hy6⟩ := at_T81 HY.out (k3 : Int) (by omega) (by omega)
              subst hA
              have hB := HR3.out.2.2.2.2
              rw [Int.toNat_natCast] at hy0 hy1 hy2 hy3 hy4 hy5 hy6
              replace hy0 := (hB.cell (World.block_lt_of_cell? w _ hy0)).trans hy0
              replace hy1 := (hB.cell (World.block_lt_of_cell? w _ hy1)).trans hy1
              replace hy2 := (hB.cell (World.block_lt_of_cell? w _ hy2)).trans hy2
              replace hy3 := (hB.cell (World.block_lt_of_cell? w _ hy3)).trans hy3
              replace hy4 := (hB.cell (World.block_lt_of_cell? w _ hy4)).trans hy4
              replace hy5 := (hB.cell (World.block_lt_of_cell? w _ hy5)).trans hy5
              replace hy6 := (hB.cell (World.block_lt_of_cell? w _ hy6)).trans hy6
              have HSX := Lib.hid (show rd_T81 c.f10 (k3 : Int) = c.f10[k3] by unfold rd_T81; rw [Int.toNat_natCast]; simp [List.getD, hlt3])
              obtain ⟨s, hse⟩ : ∃ s, s = rd_T81 c.f10 (k3 : Int) := ⟨_, rfl⟩
              rw [← hse] at HSX hy0 hy1 hy2 hy3 hy4 hy5 hy6
              have HSK := Lib.hid (show 0 < k3 → seenK tDef cu c (k3 + 1) = seenStep tDef (seenK tDef cu c k3) s from fun h => by rw [seenK_succ tDef cu c k3 hlt3 h, HSX.out])
              have HSZ := Lib.hid (show s.f0.size ≤ 1000 by rw [HSX.out]; exact HOC.out.2 _ (List.getElem_mem hlt3))
              have HLT3 := Lib.hid hlt3
              have km3 : (k3 : Int) < (c.f10.length : Int) := by omega
              have km30 : (0 : Int) ≤ (k3 : Int) := by omega
              have kw3 : IntKind.i64.wrap ((k3 : Int) + 1) = ((k3 + 1 : Nat) : Int) := by rw [IntKind.wrap_i64]; omega
              clear hse hB
              go_upto_region 12 with (fail)
              obtain ⟨wY, hwY⟩ : ∃ wY, wY = wr.alloc (.cells #[.string s.f0, .int .u64 s.f1, .int .u64 s.f2, .int .u64 s.f3, .int .u64 s.f4, .int .u64 s.f5, .bool s.f6] 81) := ⟨_, rfl⟩
              obtain ⟨gY, hgY⟩ : ∃ gY, gY = wr.heap.size := ⟨_, rfl⟩
              have HM3 := Lib.hid (show wY.ownsMap Tryz.prog 9 (plainElem (H := Unit) Tryz.prog 4) gS nS3 (nameD (seenK tDef cu c k3)) ∧ wY.ownsMap Tryz.prog 9 (plainElem (H := Unit) Tryz.prog 3) gO nO3 (cntD (seenK tDef cu c k3 ++ st)) ∧ nS3 ≤ 17 * k2 + k3 ∧ (nO3 ≤ n0 + 17 * k2 + k3 ∧ (seenK tDef cu c k3 ++ st).length ≤ nO3) ∧ Below w.heap.size w wY from by
                rw [hwY]; exact ⟨owns_below HR3.out.1 (below_alloc (Below.refl _ _) _), owns_below HR3.out.2.1 (below_alloc (Below.refl _ _) _), HR3.out.2.2.1, HR3.out.2.2.2.1, below_alloc HR3.out.2.2.2.2 _⟩)
              have HY0 := Lib.hid (show wY.heap[gY]? = some (.cells #[.string s.f0, .int .u64 s.f1, .int .u64 s.f2, .int .u64 s.f3, .int .u64 s.f4, .int .u64 s.f5, .bool s.f6] 81 (0, 0)) by rw [hwY, hgY]; exact blk_new wr _)
              have HGY := Lib.hid (show gY ≠ gS ∧ gY ≠ gO from by rw [hgY]; exact ⟨Nat.ne_of_gt (owns_lt HR3.out.1), Nat.ne_of_gt (owns_lt HR3.out.2.1)⟩)
              rw [← hwY, ← hgY]
              clear hwY hgY hy0 hy1 hy2 hy3 hy4 hy5 hy6 HR3
              obtain ⟨cv, hcv⟩ : ∃ cv, cv = seenK tDef cu c k3 := ⟨_, rfl⟩
              rw [← hcv] at HM3 HSK
              have HCV := Lib.hid hcv
              clear hcv
              have hsz : s.f0.size ≤ maxLen := by have := HSZ.out; unfold maxLen; omega
              have HST := Lib.hid (show NSt w wY gS nS3 gO nO3 gY s cv st from ⟨HM3.out.1, HM3.out.2.1, HY0.out, HM3.out.2.2.2.2⟩)
              have HNN := Lib.hid (And.intro HM3.out.2.2.1 HM3.out.2.2.2.1)
              have y0 := (blk_cell HY0.out 0).trans rfl
              have y1 := (blk_cell HY0.out 1).trans rfl
              have y2 := (blk_cell HY0.out 2).trans rfl
              have y3 := (blk_cell HY0.out 3).trans rfl
              have y4 := (blk_cell HY0.out 4).trans rfl
              have y5 := (blk_cell HY0.out 5).trans rfl
              have y6 := (blk_cell HY0.out 6).trans rfl
              clear HM3 HY0
              by_cases hk0 : k3 = 0
              · have HE := Lib.hid (show seenK tDef cu c (k3 + 1) = cv by rw [HCV.out, hk0, seenK_one, seenK_zero])
                have hk3 : ¬ ((0 : Int) < (k3 : Int)) := by omega
                have hk4 : decide ((0 : Int) < (k3 : Int)) = false := by rw [decide_eq_false_iff_not]; omega
                have hk5 : ¬ (0 < k3) := by omega
                have hk6 : decide (0 < k3) = false := by rw [decide_eq_false_iff_not]; omega
                clear hk0
                go_wp2
                exact ⟨⟨k3 + 1, nS3, nO3, HLT3.out, rfl, Lib.hid (by rw [HE.out]; exact ⟨HST.out.1, HST.out.2.1, by have := HNN.out.1; omega, ⟨by have := HNN.out.2.1; omega, HNN.out.2.2⟩, HST.out.2.2.2⟩)⟩, by have := HLT3.out; simp only [intOf]; omega⟩
              · have HSK1 := Lib.hid (HSK.out (by omega))
                have hk3 : (0 : Int) < (k3 : Int) := by omega
                have hk4 : decide ((0 : Int) < (k3 : Int)) = true := by rw [decide_eq_true_eq]; omega
                have hk5 : 0 < k3 := by omega
                have hk6 : decide (0 < k3) = true := by rw [decide_eq_true_eq]; omega
                clear hk0 HSK HCV
                go_cut [67] from 36 to 66 (fun s67 wx => s67 = .bool (takes tDef cv s) ∧ Hid (NSt w wx gS nS3 gO nO3 gY s cv st))
                case first =>
                  obtain ⟨nb, hnb⟩ : ∃ nb, nb = s.f0.toList.isEmpty := ⟨_, rfl⟩
                  obtain ⟨bv, hbv⟩ : ∃ bv, bv = bindR s := ⟨_, rfl⟩
                  obtain ⟨b0, hb0⟩ : ∃ b0, b0 = (bv != 0) := ⟨_, rfl⟩
                  obtain ⟨mm, hmm⟩ : ∃ mm, mm = decide (s.f0.data.toList ∈ cv) := ⟨_, rfl⟩
                  obtain ⟨z5, hz5⟩ : ∃ z5, z5 = (s.f5 == 0) := ⟨_, rfl⟩
                  obtain ⟨tv, htv⟩ : ∃ tv : Bool → Bool, tv = tDef s := ⟨_, rfl⟩
                  have HTK := Lib.hid (show takes tDef cv s = ((!nb) && b0 && (!mm) && tv (!s.f6 && z5)) by unfold takes undefB; rw [hnb, hb0, hbv, hmm, htv, hz5])
                  have HBD := Lib.hid (fun W => bind_c s W)
                  rw [← hbv] at HBD
                  have HTC := Lib.hid (fun u W => tDef_c s u W)
                  rw [← htv] at HTC
                  replace hnb := hnb.symm
                  replace hb0 := hb0.symm
                  replace hmm := hmm.symm
                  replace hz5 := hz5.symm
                  have HMM := Lib.hid hmm
                  clear hbv htv hmm
                  obtain ⟨f0, f1, f2, f3, f4, f5, f6⟩ := s
                  simp only at hnb hz5 HBD HTC HMM hsz y0 y1 y2 y3 y4 y5 y6
                  cases nb
                  · cases b0
                    · go_wp2_with (first | (go_at_call 16; refine (HBD.out _).mono ?_; rintro e w4 ⟨rfl, hb4⟩; have HS4 := Lib.hid (HST.out.below hb4); clear hb4))
                      go_meet
                      exact ⟨by rw [HTK.out]; rfl, HS4⟩
                    · cases mm
                      · cases f6
                        · cases z5
                          · go_wp2_with (first | (go_at_call 16; refine (HBD.out _).mono ?_; rintro e w4 ⟨rfl, hb4⟩; have HS4 := Lib.hid (HST.out.below hb4); have v0 := (blk_cell HS4.out.2.2.1 0).trans rfl; have v1 := (blk_cell HS4.out.2.2.1 1).trans rfl; have v2 := (blk_cell HS4.out.2.2.1 2).trans rfl; have v3 := (blk_cell HS4.out.2.2.1 3).trans rfl; have v4 := (blk_cell HS4.out.2.2.1 4).trans rfl; have v5 := (blk_cell HS4.out.2.2.1 5).trans rfl; have v6 := (blk_cell HS4.out.2.2.1 6).trans rfl; have hl := name_look HS4.out.1 f0 hsz; rw [HMM.out] at hl; clear hb4) | (go_at_call 14; refine (HTC.out _ _).mono ?_; rintro e w5 ⟨rfl, hb5⟩; have HS5 := Lib.hid (HS4.out.below hb5); clear hb5))
                            go_meet
                            exact ⟨by rw [HTK.out]; rfl, HS5⟩
                          · go_wp2_with (first | (go_at_call 16; refine (HBD.out _).mono ?_; rintro e w4 ⟨rfl, hb4⟩; have HS4 := Lib.hid (HST.out.below hb4); have v0 := (blk_cell HS4.out.2.2.1 0).trans rfl; have v1 := (blk_cell HS4.out.2.2.1 1).trans rfl; have v2 := (blk_cell HS4.out.2.2.1 2).trans rfl; have v3 := (blk_cell HS4.out.2.2.1 3).trans rfl; have v4 := (blk_cell HS4.out.2.2.1 4).trans rfl; have v5 := (blk_cell HS4.out.2.2.1 5).trans rfl; have v6 := (blk_cell HS4.out.2.2.1 6).trans rfl; have hl := name_look HS4.out.1 f0 hsz; rw [HMM.out] at hl; clear hb4) | (go_at_call 14; refine (HTC.out _ _).mono ?_; rintro e w5 ⟨rfl, hb5⟩; have HS5 := Lib.hid (HS4.out.below hb5); clear hb5))
                            go_meet
                            exact ⟨by rw [HTK.out]; rfl, HS5⟩
                        · go_wp2_with (first | (go_at_call 16; refine (HBD.out _).mono ?_; rintro e w4 ⟨rfl, hb4⟩; have HS4 := Lib.hid (HST.out.below hb4); have v0 := (blk_cell HS4.out.2.2.1 0).trans rfl; have v1 := (blk_cell HS4.out.2.2.1 1).trans rfl; have v2 := (blk_cell HS4.out.2.2.1 2).trans rfl; have v3 := (blk_cell HS4.out.2.2.1 3).trans rfl; have v4 := (blk_cell HS4.out.2.2.1 4).trans rfl; have v5 := (blk_cell HS4.out.2.2.1 5).trans rfl; have v6 := (blk_cell HS4.out.2.2.1 6).trans rfl; have hl := name_look HS4.out.1 f0 hsz; rw [HMM.out] at hl; clear hb4) | (go_at_call 14; refine (HTC.out _ _).mono ?_; rintro e w5 ⟨rfl, hb5⟩; have HS5 := Lib.hid (HS4.out.below hb5); clear hb5))
                          go_meet
                          exact ⟨by rw [HTK.out]; rfl, HS5⟩
                      · go_wp2_with (first | (go_at_call 16; refine (HBD.out _).mono ?_; rintro e w4 ⟨rfl, hb4⟩; have HS4 := Lib.hid (HST.out.below hb4); have v0 := (blk_cell HS4.out.2.2.1 0).trans rfl; have v1 := (blk_cell HS4.out.2.2.1 1).trans rfl; have v2 := (blk_cell HS4.out.2.2.1 2).trans rfl; have v3 := (blk_cell HS4.out.2.2.1 3).trans rfl; have v4 := (blk_cell HS4.out.2.2.1 4).trans rfl; have v5 := (blk_cell HS4.out.2.2.1 5).trans rfl; have v6 := (blk_cell HS4.out.2.2.1 6).trans rfl; have hl := name_look HS4.out.1 f0 hsz; rw [HMM.out] at hl; clear hb4) | (go_at_call 14; refine (HTC.out _ _).mono ?_; rintro e w5 ⟨rfl, hb5⟩; have HS5 := Lib.hid (HS4.out.below hb5); clear hb5))
                        go_meet
                        exact ⟨by rw [HTK.out]; rfl, HS4⟩
                  · go_wp2
                    go_meet
                    exact ⟨by rw [HTK.out]; rfl, HST⟩
                case rest =>
                  obtain ⟨rfl, HS⟩ := hcut
                  clear HST y0 y1 y2 y3 y4 y5 y6 hk3 hk4 hk5 hk6
                  obtain ⟨tb, htb⟩ : ∃ tb, tb = takes tDef cv s := ⟨_, rfl⟩
                  have HSS := Lib.hid (show seenK tDef cu c (k3 + 1) = if tb = true then s.f0.data.toList :: cv else cv by rw [HSK1.out, htb]; rfl)
                  rw [← htb]
                  clear htb HSK1
                  cases tb
                  · have HE := Lib.hid (show seenK tDef cu c (k3 + 1) = cv by rw [HSS.out, if_neg (by decide)])
                    go_wp2
                    exact ⟨⟨k3 + 1, nS3, nO3, HLT3.out, rfl, Lib.hid (by rw [HE.out]; exact ⟨HS.out.1, HS.out.2.1, by have := HNN.out.1; omega, ⟨by have := HNN.out.2.1; omega, HNN.out.2.2⟩, HS.out.2.2.2⟩)⟩, by have := HLT3.out; simp only [intOf]; omega⟩
                  · have HE := Lib.hid (show seenK tDef cu c (k3 + 1) = s.f0.data.toList :: cv by rw [HSS.out, if_pos (by first | rfl | trivial)])
                    have hnb := HNN.out.1
                    have hno := HNN.out.2.1
                    have hn0 := HN0.out.1
                    obtain ⟨W3, hrun3, hown3, hg3⟩ := name_upd HS.out.1 s.f0 hsz (show nS3 < maxLen by unfold maxLen; omega)
                    have hO3 := owns_far HS.out.2.1 hg3 HGS.out.2
                    have hY3 := blk_grown HS.out.2.2.1 hg3 (by intro e; injection e with e; exact HGY.out.1 e)
                    have hB3 := HS.out.2.2.2.grown hg3 HS.out.2.2.2.size (fun b e => by cases e; exact HGS.out.1)
                    obtain ⟨cn, hcn⟩ : ∃ cn : Nat, cn = (cv ++ st).count s.f0.data.toList := ⟨_, rfl⟩
                    have hcb : cn ≤ 2000 := by rw [hcn]; refine Nat.le_trans List.count_le_length ?_; have := HNN.out.2.2; omega
                    have hlk := cnt_look hO3 s.f0 hsz
                    rw [← hcn] at hlk
                    obtain ⟨W4, hrun4, hown4, hg4⟩ := cnt_upd hO3 s.f0 hsz (show nO3 < maxLen by unfold maxLen; omega) ((cn : Int) + 1) (by rw [hcn]) (by omega)
                    have HS4 := Lib.hid (owns_far hown3 hg4 (fun e => HGS.out.2 e.symm))
                    have HO4 := Lib.hid hown4
                    have HB4 := Lib.hid (hB3.grown hg4 hB3.size (fun b e => by cases e; exact HGO.out))
                    have cw : IntKind.i64.wrap ((cn : Int) + 1) = (cn : Int) + 1 := by rw [IntKind.wrap_i64]; omega
                    have y0 := (blk_cell HS.out.2.2.1 0).trans rfl
                    have y30 := (blk_cell hY3 0).trans rfl
                    clear hown3 hO3 hY3 hB3 hg3 hg4 hown4 hcn hcb
                    go_wp2
                    exact ⟨⟨k3 + 1, nS3 + 1, nO3 + 1, HLT3.out, rfl, Lib.hid (by rw [HE.out]; exact ⟨HS4.out, HO4.out, by have := HNN.out.1; omega, ⟨by have := HNN.out.2.1; omega, by have := HNN.out.2.2; simp only [List.cons_append, List.length_cons]; omega⟩, HB4.out⟩)⟩, by have := HLT3.out; simp only [intOf]; omega⟩
            · have hke : k3 = c.f10.length := by omega
              subst hke
              go_wp2
              exact ⟨⟨k2 + 1, nS3, nO3, HLT2.out, rfl, Lib.hid (by rw [HSM.out, ← seenK_all]; exact ⟨HR3.out.1, HR3.out.2.1, by have := HR3.out.2.2.1; omega, ⟨by have := HR3.out.2.2.2.1.1; omega, HR3.out.2.2.2.1.2⟩, HR3.out.2.2.2.2⟩)⟩, by have := HLT2.out; simp only [intOf]; omega⟩
        · have hke : k2 = md.L.length := by omega
          subst hke
          rw [List.take_length] at HR2
          have hl13 := HOK.out.1
          go_wp2
          exact ⟨⟨k + 1, nO2, HLT.out, rfl, Lib.hid (by rw [HIS.out]; exact ⟨HR2.out.2.1, ⟨by have := HR2.out.2.2.2.1.1; have := HN0.out.1; omega, HR2.out.2.2.2.1.2⟩, HR2.out.2.2.2.2⟩)⟩, by have := HLT.out; simp only [intOf]; omega⟩
    · have hke : k = ms.length := by omega
      subst hke
      rw [List.take_length] at HR
      go_wp2
      go_ret
      exact ⟨gO, n0, rfl, HGO.out, by have := HR.out.2.1.1; omega, HR.out.1, HR.out.2.2⟩
end Go.Proofs.YtkbamfiokhmpjaaGreatDoor

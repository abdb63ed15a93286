/- NmLetters' walk. -/
import Derived.Test.YtkbamfiokhmpjaaDoorXKdM27P
namespace Go.Proofs.YtkbamfiokhmpjaaDoorX.Kd
open Go.RowKit Go.Proofs.YtkbamfiokhmpjaaDoor Go.Proofs.YtkbamfiokhmpjaaDoorW.PrintWords
structure S29 where
  f0 : Int
  f1 : Int
def k29 : Kd S29 := Kd.iso (Kd.pair (Kd.int .u64) (Kd.int .u64)) (fun x : S29 => (x.f0, x.f1))
theorem k29_open {w : World} {x : S29} {cs : List Value} (h : k29.K w x cs) : cs = [.int .u64 x.f0, .int .u64 x.f1] := by
  obtain ⟨_, _, rfl, rfl, rfl⟩ := h
  exact rfl
end Go.Proofs.YtkbamfiokhmpjaaDoorX.Kd
namespace Go.Proofs.YtkbamfiokhmpjaaDoor
set_option linter.unusedVariables false
set_option linter.unusedSimpArgs false
open Go.RowKit Go.Proofs.YtkbamfiokhmpjaaDoorX.Kd Go.Proofs.YtkbamfiokhmpjaaDoorW.PrintWords Go.Proofs.YtkbamfiokhmpjaaDoorW.PrintLast Go.Proofs.YtkbamfiokhmpjaaDoorW.PrintMore

set_option maxRecDepth 100000 in
set_option maxHeartbeats 32000000 in
theorem letters_walk (z : S27) (hz : okP z) (cs : List Value) (x y : Int) (hx : 0 ≤ x ∧ x < 18446744073709551616) (hy : 0 ≤ y) (sp : Bool) (w : World) (h0 : k27.K w z cs) (ht : Tabs w) :
    Calls Tryd.prog 3 #[.agg cs.toArray, .agg #[.int .u64 x, .int .u64 y], .bool sp] w fun e w' => e = .returned (.bool true) ∧ Below w.heap.size w w' := by
  obtain ⟨a01, c01, a02, c02, a03, c03, a04, c04, rfl, g1, g2, g3, g4⟩ := k27_open h0
  have H0 := Lib.hid (And.intro g1 (And.intro g2 (And.intro g3 g4)))
  have HT := Lib.hid ht
  have HBX := Lib.hid (And.intro hx hy)
  clear g1 g2 g3 g4 ht h0 hx hy
  go_enter Tryd.func3, Tryd.ntmps3
  go_upto_region 3 with (first | (go_at_call 6; refine (speaks_any _ (HT.out.below (below_alloc (below_alloc (Below.refl _ _) _) _))).mono ?_; rintro e w1 ⟨rfl, hb1⟩; have HB1 := Lib.hid hb1; clear hb1))
  have HP1 := Lib.hid (show (w1.heap[w.heap.size]? = some (.cells #[.int .i64 z.f0, .slice a01 z.f1.length c01, .slice a02 z.f2.length c02, .slice a03 z.f3.length c03, .slice a04 z.f4.length c04] 27 (0, 0)) ∧ w1.heap[w.heap.size + 1]? = some (.cells #[.int .u64 x, .int .u64 y] 29 (0, 0))) ∧ Below w.heap.size w w1 from by
    have h0 := blk_new w (.cells #[.int .i64 z.f0, .slice a01 z.f1.length c01, .slice a02 z.f2.length c02, .slice a03 z.f3.length c03, .slice a04 z.f4.length c04] 27)
    have h1 := blk_new (w.alloc (.cells #[.int .i64 z.f0, .slice a01 z.f1.length c01, .slice a02 z.f2.length c02, .slice a03 z.f3.length c03, .slice a04 z.f4.length c04] 27)) (.cells #[.int .u64 x, .int .u64 y] 29)
    rw [World.size_alloc] at h1
    exact ⟨⟨blk_below (blk_alloc h0 _) HB1.out, blk_below h1 HB1.out⟩, (below_alloc (below_alloc (Below.refl w.heap.size w) _) _).trans (HB1.out.mono (by simp; omega))⟩)
  clear HB1
  have HC1 := Lib.hid (show ∀ W, Below w1.heap.size w1 W → W.cell? ⟨w.heap.size + 1, 0, none⟩ = some (.int .u64 x) ∧ W.cell? ⟨w.heap.size + 1, 1, none⟩ = some (.int .u64 y) from fun W hb => ⟨blk_cell (blk_below HP1.out.1.2 hb) 0, blk_cell (blk_below HP1.out.1.2 hb) 1⟩)
  go_region_held3 (fun W => W.cell? ⟨w.heap.size + 1, 0, none⟩ = some (.int .u64 x) ∧ W.cell? ⟨w.heap.size + 1, 1, none⟩ = some (.int .u64 y)) (exact HC1.out _ (by repeat (first | with_reducible exact Below.refl _ _ | with_reducible assumption | with_reducible apply below_alloc | with_reducible apply pw_below_drewN | with_reducible apply below_drew1))) (fail)
  have HPd := Lib.hid (show w1.drew.heap[w.heap.size]? = some (.cells #[.int .i64 z.f0, .slice a01 z.f1.length c01, .slice a02 z.f2.length c02, .slice a03 z.f3.length c03, .slice a04 z.f4.length c04] 27 (0, 0)) ∧ Below w.heap.size w w1.drew from ⟨blk_drew HP1.out.1.1, below_drew1 HP1.out.2⟩)
  generalize w1.drew = wd at HPd ⊢
  clear HP1 HC1
  have p0 := (blk_cell HPd.out.1 0).trans rfl
  have p1 := (blk_cell HPd.out.1 1).trans rfl
  have p2 := (blk_cell HPd.out.1 2).trans rfl
  have p3 := (blk_cell HPd.out.1 3).trans rfl
  have p4 := (blk_cell HPd.out.1 4).trans rfl
  go_upto_region 6 with (first
    | (go_at_call 7; refine (made_z z hz a01 a02 a03 a04 c01 c02 c03 c04 _ (Kd.C_below H0.out.1 HPd.out.2) (Kd.C_below H0.out.2.1 HPd.out.2) (Kd.C_below H0.out.2.2.1 HPd.out.2) (Kd.C_below H0.out.2.2.2 HPd.out.2)).mono ?_; rintro e w2 ⟨v2, rfl, hM, hB2⟩; obtain ⟨A9, c9, A10, c10, rfl, h9, h10⟩ := hM; have HM2 := Lib.hid (show MDv z w2 _ from ⟨A9, c9, A10, c10, rfl, h9, h10⟩); have HB2 := Lib.hid (HPd.out.2.trans (hB2.mono HPd.out.2.size)); clear h9 h10 hB2))
  clear p0 p1 p2 p3 p4 HPd
  obtain ⟨wb, hwb⟩ : ∃ wb, wb = (w2.alloc (.cells #[.bool (flagB z.f0 2), .bool (flagB z.f0 1), .int .u8 3, .int .u8 0, .int .u64 1, .int .u64 243, .int .u64 16, .int .u64 5, .int .u64 1, .slice A9 (madeSecs z.f0 z.f1 z.f2 z.f3).length c9, .slice A10 (segsR z.f4).length c10] 34)).alloc (.cells #[.string ⟨#[115]⟩, .int .u64 x, .int .u64 0, .int .u64 0, .int .u64 0, .int .u64 y, .bool sp] 37) := ⟨_, rfl⟩
  obtain ⟨g0, hg0⟩ : ∃ g0, g0 = w2.heap.size := ⟨_, rfl⟩
  obtain ⟨g1, hg1⟩ : ∃ g1, g1 = w2.heap.size + 1 := ⟨_, rfl⟩
  have HM6 := Lib.hid (show wb.heap[g0]? = some (.cells #[.bool (flagB z.f0 2), .bool (flagB z.f0 1), .int .u8 3, .int .u8 0, .int .u64 1, .int .u64 243, .int .u64 16, .int .u64 5, .int .u64 1, .slice A9 (madeSecs z.f0 z.f1 z.f2 z.f3).length c9, .slice A10 (segsR z.f4).length c10] 34 (0, 0)) ∧ wb.heap[g1]? = some (.cells #[.string ⟨#[115]⟩, .int .u64 x, .int .u64 0, .int .u64 0, .int .u64 0, .int .u64 y, .bool sp] 37 (0, 0)) from by
    have h1 := blk_new (w2.alloc (.cells #[.bool (flagB z.f0 2), .bool (flagB z.f0 1), .int .u8 3, .int .u8 0, .int .u64 1, .int .u64 243, .int .u64 16, .int .u64 5, .int .u64 1, .slice A9 (madeSecs z.f0 z.f1 z.f2 z.f3).length c9, .slice A10 (segsR z.f4).length c10] 34)) (.cells #[.string ⟨#[115]⟩, .int .u64 x, .int .u64 0, .int .u64 0, .int .u64 0, .int .u64 y, .bool sp] 37)
    rw [World.size_alloc, ← hwb, ← hg1] at h1
    exact ⟨by rw [hwb, hg0]; exact blk_alloc (blk_new w2 _) _, h1⟩)
  have HBb := Lib.hid (show Below w2.heap.size w2 wb from by rw [hwb]; exact below_alloc (below_alloc (Below.refl _ _) _) _)
  rw [← hwb, ← hg1, ← hg0]
  have HMb := Lib.hid (HM2.out.below HBb.out)
  have HBw := Lib.hid (HB2.out.trans (HBb.out.mono HB2.out.size))
  clear hwb hg0 hg1 HM2 HB2 HBb
  have HC6 := Lib.hid (show ∀ W, Below wb.heap.size wb W → W.cell? ⟨g0, 0, none⟩ = some (.bool (flagB z.f0 2)) ∧ W.cell? ⟨g0, 1, none⟩ = some (.bool (flagB z.f0 1)) ∧ W.cell? ⟨g0, 2, none⟩ = some (.int .u8 3) ∧ W.cell? ⟨g0, 3, none⟩ = some (.int .u8 0) ∧ W.cell? ⟨g0, 4, none⟩ = some (.int .u64 1) ∧ W.cell? ⟨g0, 5, none⟩ = some (.int .u64 243) ∧ W.cell? ⟨g0, 6, none⟩ = some (.int .u64 16) ∧ W.cell? ⟨g0, 7, none⟩ = some (.int .u64 5) ∧ W.cell? ⟨g0, 8, none⟩ = some (.int .u64 1) ∧ W.cell? ⟨g0, 9, none⟩ = some (.slice A9 (madeSecs z.f0 z.f1 z.f2 z.f3).length c9) ∧ W.cell? ⟨g0, 10, none⟩ = some (.slice A10 (segsR z.f4).length c10) ∧ W.cell? ⟨g1, 0, none⟩ = some (.string ⟨#[115]⟩) ∧ W.cell? ⟨g1, 1, none⟩ = some (.int .u64 x) ∧ W.cell? ⟨g1, 2, none⟩ = some (.int .u64 0) ∧ W.cell? ⟨g1, 3, none⟩ = some (.int .u64 0) ∧ W.cell? ⟨g1, 4, none⟩ = some (.int .u64 0) ∧ W.cell? ⟨g1, 5, none⟩ = some (.int .u64 y) ∧ W.cell? ⟨g1, 6, none⟩ = some (.bool sp) from fun W hb => ⟨blk_cell (blk_below HM6.out.1 hb) 0, blk_cell (blk_below HM6.out.1 hb) 1, blk_cell (blk_below HM6.out.1 hb) 2, blk_cell (blk_below HM6.out.1 hb) 3, blk_cell (blk_below HM6.out.1 hb) 4, blk_cell (blk_below HM6.out.1 hb) 5, blk_cell (blk_below HM6.out.1 hb) 6, blk_cell (blk_below HM6.out.1 hb) 7, blk_cell (blk_below HM6.out.1 hb) 8, blk_cell (blk_below HM6.out.1 hb) 9, blk_cell (blk_below HM6.out.1 hb) 10, blk_cell (blk_below HM6.out.2 hb) 0, blk_cell (blk_below HM6.out.2 hb) 1, blk_cell (blk_below HM6.out.2 hb) 2, blk_cell (blk_below HM6.out.2 hb) 3, blk_cell (blk_below HM6.out.2 hb) 4, blk_cell (blk_below HM6.out.2 hb) 5, blk_cell (blk_below HM6.out.2 hb) 6⟩)
  have HLT := Lib.hid (fun (u : Value) W (h : TDv z W u) => letter_t z ⟨⟨#[115]⟩, x, 0, 0, 0, y, sp⟩ HBX.out.2 u W h)
  have HRL := Lib.hid (fun W (hb : Below wb.heap.size wb W) => refLetter_t z ⟨⟨#[115]⟩, x, 0, 0, 0, y, sp⟩ HBX.out.1 HBX.out.2 _ W (HMb.out.below hb))
  obtain ⟨lb, hlb⟩ : ∃ lb, lb = letB (PM z).L ⟨⟨#[115]⟩, x, 0, 0, 0, y, sp⟩ := ⟨_, rfl⟩
  rw [← hlb] at HLT HRL
  clear hlb
  have heq : (lb.toList == lb.toList) = true := beq_self_eq_true _
  go_region_held3 (fun W => W.cell? ⟨g0, 0, none⟩ = some (.bool (flagB z.f0 2)) ∧ W.cell? ⟨g0, 1, none⟩ = some (.bool (flagB z.f0 1)) ∧ W.cell? ⟨g0, 2, none⟩ = some (.int .u8 3) ∧ W.cell? ⟨g0, 3, none⟩ = some (.int .u8 0) ∧ W.cell? ⟨g0, 4, none⟩ = some (.int .u64 1) ∧ W.cell? ⟨g0, 5, none⟩ = some (.int .u64 243) ∧ W.cell? ⟨g0, 6, none⟩ = some (.int .u64 16) ∧ W.cell? ⟨g0, 7, none⟩ = some (.int .u64 5) ∧ W.cell? ⟨g0, 8, none⟩ = some (.int .u64 1) ∧ W.cell? ⟨g0, 9, none⟩ = some (.slice A9 (madeSecs z.f0 z.f1 z.f2 z.f3).length c9) ∧ W.cell? ⟨g0, 10, none⟩ = some (.slice A10 (segsR z.f4).length c10) ∧ W.cell? ⟨g1, 0, none⟩ = some (.string ⟨#[115]⟩) ∧ W.cell? ⟨g1, 1, none⟩ = some (.int .u64 x) ∧ W.cell? ⟨g1, 2, none⟩ = some (.int .u64 0) ∧ W.cell? ⟨g1, 3, none⟩ = some (.int .u64 0) ∧ W.cell? ⟨g1, 4, none⟩ = some (.int .u64 0) ∧ W.cell? ⟨g1, 5, none⟩ = some (.int .u64 y) ∧ W.cell? ⟨g1, 6, none⟩ = some (.bool sp)) (first | exact HC6.out _ HBr.out | exact HC6.out _ HBl.out | exact HC6.out _ HBt.out | exact HC6.out _ (by repeat (first | with_reducible exact Below.refl _ _ | with_reducible assumption | with_reducible apply below_alloc | with_reducible apply pw_below_drewN | with_reducible apply below_drew1)))
    (first
      | (go_at_call 9; refine (told_z z _ _ (HMb.out.below (by repeat (first | with_reducible exact Below.refl _ _ | with_reducible assumption | with_reducible apply below_alloc | with_reducible apply pw_below_drewN | with_reducible apply below_drew1)))).mono ?_; rintro e w3 ⟨u3, rfl, hT, hB3⟩; have HT3 := Lib.hid hT; have HBt := Lib.hid (show Below wb.heap.size wb w3 from ((by repeat (first | with_reducible exact Below.refl _ _ | with_reducible assumption | with_reducible apply below_alloc | with_reducible apply pw_below_drewN | with_reducible apply below_drew1)) : Below wb.heap.size wb _).trans (hB3.mono (by simp))); clear hT hB3)
      | (go_at_call 8; refine (HLT.out _ _ HT3.out).mono ?_; rintro e w4 ⟨rfl, hB4⟩; have HBl := Lib.hid (HBt.out.trans (hB4.mono HBt.out.size)); clear hB4)
      | (go_at_call 10; refine (HRL.out _ HBl.out).mono ?_; rintro e w5 ⟨rfl, hB5⟩; have HBr := Lib.hid (HBl.out.trans (hB5.mono HBl.out.size)); clear hB5))
  go_wp2
  go_ret
  exact ⟨rfl, HBw.out.trans (HBr.out.mono HBw.out.size)⟩
theorem letters_row (z : S27) (hz : okP z) (cs : List Value) (q : S29) (hx : 0 ≤ q.f0 ∧ q.f0 < 18446744073709551616) (hy : 0 ≤ q.f1) (ds : List Value) (sp : Bool) (w : World) (h0 : k27.K w z cs) (h1 : k29.K w q ds) (ht : Tabs w) :
    Calls Tryd.prog 3 #[.agg cs.toArray, .agg ds.toArray, .bool sp] w fun e w' => e = .returned (.bool true) ∧ Below w.heap.size w w' := by
  obtain rfl := k29_open h1
  exact letters_walk z hz cs q.f0 q.f1 hx hy sp w h0 ht
end Go.Proofs.YtkbamfiokhmpjaaDoor

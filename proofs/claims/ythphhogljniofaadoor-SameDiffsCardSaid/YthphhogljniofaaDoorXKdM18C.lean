/- Contracts over this translation: the document's numbers. -/
import Derived.Test.YthphhogljniofaaDoorXKdM17N
import Derived.Laws.IdiomStrings
import Derived.Test.YthphhogljniofaaDoorXKdM17P
import Derived.Test.YthphhogljniofaaDoorXKdM18M
import Derived.Deep.DeepCutAuto
import Derived.Deep.CutBlock
namespace Go.Proofs.YthphhogljniofaaDoor
set_option linter.unusedVariables false
set_option linter.unusedSimpArgs false
open Go.RowKit Go.Proofs.YthphhogljniofaaDoorX.Kd Go.Proofs.YthphhogljniofaaDoorW.PrintWords Go.Proofs.YthphhogljniofaaDoorW.PrintLast Go.Proofs.YthphhogljniofaaDoorW.PrintMore

set_option maxRecDepth 100000 in
theorem number_small (k : Nat) (hk : k < 10) (w : World) : Calls Tryd.prog 14 #[.int .i64 k] w fun e w' => e = .returned (.string ⟨#[(48 + k).toUInt8]⟩) ∧ Below w.heap.size w w' := by
  have h10 : (k : Int) < 10 := by omega
  have b1 : IntKind.i64.wrap (48 + (k : Int)) = 48 + (k : Int) := by rw [IntKind.wrap_i64]; omega
  have b2 : IntKind.u8.wrap (48 + (k : Int)) = 48 + (k : Int) := by rw [IntKind.wrap_u8]; omega
  have hconv : Sem.run Tryd.prog (convert 97 9 (.slice (some ⟨w.heap.size, 0, none⟩) 1 1)) (w.alloc (.cells #[.int .u8 (48 + (k : Int))] 5)) = .ok (.string ⟨#[(48 + k).toUInt8]⟩) (w.alloc (.cells #[.int .u8 (48 + (k : Int))] 5)) := by
    refine run_convert_bytes_back _ _ _ 5 ⟨w.heap.size, 0, none⟩ 1 [(48 + k).toUInt8] Tryd.underlying97 Tryd.underlying5 Tryd.underlying9 ?_
    intro j hj
    have hj0 : j = 0 := by simpa using hj
    subst hj0
    have h := blk_cell (blk_new w (.cells #[.int .u8 (48 + (k : Int))] 5)) 0
    have hv : ((48 + k).toUInt8.toNat : Int) = 48 + (k : Int) := by
      rw [Nat.toUInt8, UInt8.toNat_ofNat']
      omega
    show _ = some (Value.int .u8 (((48 + k).toUInt8.toNat : Nat) : Int))
    rw [hv]
    exact h
  obtain ⟨s, hs⟩ : ∃ s, s = (⟨#[(48 + k).toUInt8]⟩ : ByteArray) := ⟨_, rfl⟩
  rw [← hs] at hconv ⊢
  clear hs
  go_enter Tryd.func14, Tryd.ntmps14
  go_wp2
  go_ret
  exact ⟨rfl, below_alloc (Below.refl _ _) _⟩
set_option maxRecDepth 100000 in
theorem number_any (k : Nat) (hk : k < 16) (w : World) : Calls Tryd.prog 14 #[.int .i64 k] w fun e w' => e = .returned (.string (itoaR k)) ∧ Below w.heap.size w w' := by
  by_cases h : k < 10
  · unfold itoaR
    rw [if_pos h]
    exact number_small k h w
  · have h10 : ¬ (k : Int) < 10 := by omega
    have H1 := Lib.hid (fun W => number_small 1 (by decide) W)
    obtain ⟨j, hj⟩ : ∃ j, k = 10 + j := ⟨k - 10, by omega⟩
    have H2 := Lib.hid (fun W => number_small j (by omega) W)
    have t1 : Int.tdiv (k : Int) 10 = 1 := by
      rw [Int.tdiv_eq_ediv_of_nonneg (by omega)]; omega
    have t2 : Int.tmod (k : Int) 10 = (j : Int) := by
      rw [Int.tmod_eq_emod_of_nonneg (by omega)]; omega
    have HJ := Lib.hid hj
    have hs : ¬ (9223372036854775807 < (⟨#[(48 + 1).toUInt8]⟩ : ByteArray).size + (⟨#[(48 + j).toUInt8]⟩ : ByteArray).size) := by
      show ¬ (9223372036854775807 < 1 + 1)
      omega
    obtain ⟨s1, hs1⟩ : ∃ s1, s1 = (⟨#[(48 + 1).toUInt8]⟩ : ByteArray) := ⟨_, rfl⟩
    obtain ⟨s2, hs2⟩ : ∃ s2, s2 = (⟨#[(48 + j).toUInt8]⟩ : ByteArray) := ⟨_, rfl⟩
    rw [← hs1] at H1
    rw [← hs2] at H2
    rw [← hs1, ← hs2] at hs
    have HS1 := Lib.hid hs1
    have HS2 := Lib.hid hs2
    clear hj hs1 hs2
    go_enter Tryd.func14, Tryd.ntmps14
    go_wp2_with (first
      | (have hh := HB1; clear hh; go_at_call 14; refine (H2.out _).mono ?_; rintro e w2 ⟨rfl, hb2⟩; have HB2 := Lib.hid (HB1.out.trans (hb2.mono HB1.out.size)); clear hb2)
      | (go_at_call 14; refine (H1.out _).mono ?_; rintro e w1 ⟨rfl, hb1⟩; have HB1 := Lib.hid hb1; clear hb1))
    go_ret
    refine ⟨?_, HB2.out⟩
    have hk1 : k / 10 = 1 := by have := HJ.out; omega
    have hk2 : k % 10 = j := by have := HJ.out; omega
    unfold itoaR
    rw [if_neg h, hk1, hk2, HS1.out, HS2.out]
    rfl
end Go.Proofs.YthphhogljniofaaDoor

/- Contracts over this translation, two sections: Sections. -/
namespace Go.Proofs.YthphhogljniofaaDoor
set_option linter.unusedVariables false
set_option linter.unusedSimpArgs false
open Go.RowKit Go.Proofs.YthphhogljniofaaDoorX.Kd Go.Proofs.YthphhogljniofaaDoorW.PrintWords Go.Proofs.YthphhogljniofaaDoorW.PrintLast Go.Proofs.YthphhogljniofaaDoorW.PrintMore

theorem eqC_congr {α β : Type} {a b : α} {c d : β} (h : a = b ↔ c = d) : eqC a b = eqC c d := by
  by_cases h1 : a = b
  · rw [eqC_true h1, eqC_true (h.1 h1)]
  · rw [eqC_false h1, eqC_false (fun h2 => h1 (h.2 h2))]
set_option maxRecDepth 100000 in
set_option maxHeartbeats 16000000 in
theorem sameSecs_any (x y : S58) (A10 A11 A12 B10 B11 B12 : Option Addr) (c10 c11 c12 d10 d11 d12 : Nat) (w : World) (l10 : x.f10.length ≤ c10) (g10 : Kd.C k61 w A10 x.f10.length x.f10) (l11 : x.f11.length ≤ c11) (g11 : Kd.C k63 w A11 x.f11.length x.f11) (l12 : x.f12.length ≤ c12) (g12 : Kd.C (Kd.int .u64) w A12 x.f12.length x.f12) (m10 : y.f10.length ≤ d10) (j10 : Kd.C k61 w B10 y.f10.length y.f10) (m11 : y.f11.length ≤ d11) (j11 : Kd.C k63 w B11 y.f11.length y.f11) (m12 : y.f12.length ≤ d12) (j12 : Kd.C (Kd.int .u64) w B12 y.f12.length y.f12) :
    Calls Tryd.prog 15 #[.agg #[.string x.f0, .int .u64 x.f1, .int .u64 x.f2, .int .u64 x.f3, .int .u64 x.f4, .int .u64 x.f5, .int .u64 x.f6, .int .u64 x.f7, .int .u64 x.f8, .string x.f9, .slice A10 x.f10.length c10, .slice A11 x.f11.length c11, .slice A12 x.f12.length c12], .agg #[.string y.f0, .int .u64 y.f1, .int .u64 y.f2, .int .u64 y.f3, .int .u64 y.f4, .int .u64 y.f5, .int .u64 y.f6, .int .u64 y.f7, .int .u64 y.f8, .string y.f9, .slice B10 y.f10.length d10, .slice B11 y.f11.length d11, .slice B12 y.f12.length d12]] w fun e w' => e = .returned (.bool (eqC x y)) ∧ Below w.heap.size w w' := by
  have HF := Lib.hid (fun W (hb : Below w.heap.size w W) => where_any x y A10 A11 A12 B10 B11 B12 c10 c11 c12 d10 d11 d12 W l10 (Kd.C_below g10 hb) l11 (Kd.C_below g11 hb) l12 (Kd.C_below g12 hb) m10 (Kd.C_below j10 hb) m11 (Kd.C_below j11 hb) m12 (Kd.C_below j12 hb))
  clear l10 g10 l11 g11 l12 g12 m10 j10 m11 j11 m12 j12
  rw [← eqC_congr (a := whereR x y) (b := (⟨#[]⟩ : ByteArray)) whereR_nil]
  obtain ⟨d, hd1⟩ : ∃ d, d = whereR x y := ⟨_, rfl⟩
  rw [← hd1] at HF ⊢
  clear hd1
  go_enter Tryd.func15, Tryd.ntmps15
  go_wp2_with (first | (go_at_call 24; refine (HF.out _ (below_alloc (below_alloc (Below.refl _ _) _) _)).mono ?_; rintro e w1 ⟨rfl, hb1⟩; have HB := Lib.hid ((below_alloc (below_alloc (Below.refl w.heap.size w) _) _ : Below w.heap.size w _).trans (hb1.mono (by simp; omega))); clear hb1))
  go_ret
  exact ⟨by first | (rw [← ba_empty]; rfl) | (rw [← ba_isEmpty]; rfl), HB.out⟩
end Go.Proofs.YthphhogljniofaaDoor

/- Contracts over this translation: SameDiffs' plan. -/
namespace Go.Proofs.YthphhogljniofaaDoor
set_option linter.unusedVariables false
set_option linter.unusedSimpArgs false
open Go.RowKit Go.Proofs.YthphhogljniofaaDoorX.Kd Go.Proofs.YthphhogljniofaaDoorW.PrintWords Go.Proofs.YthphhogljniofaaDoorW.PrintLast Go.Proofs.YthphhogljniofaaDoorW.PrintMore
attribute [local go_sem] max2_int min2_int max_two min_two

theorem plan_open2 {w : World} {x : S27} {cs : List Value} (h : k27.K w x cs) : ∃ A1 c1 A2 c2 A3 c3 A4 c4, cs = [.int .i64 x.f0, .slice A1 x.f1.length c1, .slice A2 x.f2.length c2, .slice A3 x.f3.length c3, .slice A4 x.f4.length c4] ∧ k74.C w A1 x.f1.length x.f1 ∧ k52.C w A2 x.f2.length x.f2 ∧ k87.C w A3 x.f3.length x.f3 ∧ Kd.string.C w A4 x.f4.length x.f4 ∧ x.f2.length ≤ c2 ∧ x.f4.length ≤ c4 := by
  obtain ⟨_, _, rfl, rfl, ⟨_, _, rfl, ⟨A1, c1, rfl, l1, g1⟩, ⟨_, _, rfl, ⟨A2, c2, rfl, l2, g2⟩, ⟨_, _, rfl, ⟨A3, c3, rfl, l3, g3⟩, ⟨A4, c4, rfl, l4, g4⟩⟩⟩⟩⟩ := h
  exact ⟨A1, c1, A2, c2, A3, c3, A4, c4, rfl, g1, g2, g3, g4, l2, l4⟩
theorem infoP52 : (Tryd.prog.info? 52).map (fun i => (i.zero, i.size, i.bytes)) = some (some (.agg #[.string ⟨#[]⟩, .int .i64 0, .int .i64 0, .int .i64 0]), 4, 40) := by kernel_rfl
theorem infoP9 : (Tryd.prog.info? 9).map (fun i => (i.zero, i.size, i.bytes)) = some (some (.string ⟨#[]⟩), 1, 16) := by kernel_rfl
theorem infoG65 : (Tryd.prog.info? 65).map (fun i => (i.zero, i.size, i.bytes)) = some (some (.agg #[.int .u64 0, .int .u64 0, .int .u64 0, .int .u64 0, .int .u64 0, .int .u64 0, .string ⟨#[]⟩]), 7, 64) := by kernel_rfl
theorem R_one {α : Type} {d : Kd α} (w : World) (base e : Nat) (hb : base ≤ w.heap.size) (x : α) (cs : List Value) (hM : ∀ W, d.M W base (fun _ => False) x cs) : d.R e (w.alloc (.cells cs.toArray e)) base (fun _ => True) (.slice (some ⟨w.heap.size, 0, none⟩) 1 1) [x] := by
  have hl : cs.length = d.sz := d.K_len (d.K_of_M (hM w))
  refine ⟨fun _ _ => trivial, cs, ?_, ?_⟩
  · have h2 := World.ownsRow_lit (base := base) (e := e) (size := d.sz) w cs.toArray 1 hb (by unfold maxLen; omega) (by simp [hl])
    simpa using h2
  · exact Reps.front (d.M_mono (fun _ h => h.elim) (hM _)) hl (Reps.none _ _) (List.append_nil _)
/-- The plan as SameDiffs changes it. -/
def zD (z : S27) : S27 := { z with f2 := (⟨⟨#[115]⟩, 1, 1, 0⟩ : S52) :: z.f2.take 5, f4 := (⟨#[120]⟩ : ByteArray) :: z.f4.take 2 }
theorem zD_ok {z : S27} (h : okP z) : okP (zD z) := by
  refine ⟨h.1, fun x hx => ?_⟩
  rcases List.mem_cons.1 hx with rfl | hx
  · decide
  · exact h.2 x (List.mem_of_mem_take hx)
set_option maxRecDepth 100000 in
set_option maxHeartbeats 32000000 in
theorem diffs_walk (z : S27) (hz : okP z) (what at_ : Int) (cs0 : List Value) (w : World) (h0 : k27.K w z cs0) :
    Calls Tryd.prog 5 #[.agg cs0.toArray, .int .i64 what, .int .i64 at_] w fun e w' => e = .returned (.bool true) ∧ Below w.heap.size w w' := by
  obtain ⟨a01, c01, a02, c02, a03, c03, a04, c04, rfl, g1, g2, g3, g4, l2, l4⟩ := plan_open2 h0
  have H1 := Lib.hid g1
  have H2 := Lib.hid g2
  have H3 := Lib.hid g3
  have H4 := Lib.hid g4
  clear g1 g2 g3 g4 h0
  go_enter Tryd.func5, Tryd.ntmps5
  go_upto_region 3 with (first | (go_at_call 7; refine (speaks_any _).mono ?_; rintro e w1 ⟨rfl, hb1⟩; have HB1 := Lib.hid hb1; clear hb1))
  have HP1 := Lib.hid (show w1.heap[w.heap.size]? = some (.cells #[.int .i64 z.f0, .slice a01 z.f1.length c01, .slice a02 z.f2.length c02, .slice a03 z.f3.length c03, .slice a04 z.f4.length c04] 27 (0, 0)) ∧ Below w.heap.size w w1 from by
    have h0 := blk_new w (.cells #[.int .i64 z.f0, .slice a01 z.f1.length c01, .slice a02 z.f2.length c02, .slice a03 z.f3.length c03, .slice a04 z.f4.length c04] 27)
    exact ⟨blk_below h0 HB1.out, ((below_alloc (Below.refl w.heap.size w) _) : Below w.heap.size w _).trans (HB1.out.mono (by simp))⟩)
  clear HB1
  obtain ⟨m2, hm2⟩ : ∃ m2 : Nat, m2 = min z.f2.length 5 := ⟨_, rfl⟩
  obtain ⟨m4, hm4⟩ : ∃ m4 : Nat, m4 = min z.f4.length 2 := ⟨_, rfl⟩
  have HM2 := Lib.hid hm2
  have HM4 := Lib.hid hm4
  have t21 : (if (5 : Int) < (z.f2.length : Int) then (5 : Int) else (z.f2.length : Int)) = (m2 : Int) := by split <;> omega
  have t22 : (if 5 < z.f2.length then (5 : Int) else (z.f2.length : Int)) = (m2 : Int) := by split <;> omega
  have b2 : m2 ≤ c02 := by omega
  have x0 := blk_cell HP1.out.1 0
  have x1 := blk_cell HP1.out.1 1
  have x2 := blk_cell HP1.out.1 2
  have x3 := blk_cell HP1.out.1 3
  have x4 := blk_cell HP1.out.1 4
  have f2 := blk_frozen HP1.out.1 2
  have f4 := blk_frozen HP1.out.1 4
  simp only [List.getElem?_toArray, List.getElem?_cons_succ, List.getElem?_cons_zero] at x0 x1 x2 x3 x4
  clear hm2 hm4
  have HW1 := Lib.hid (blk_alloc HP1.out.1 (.cells #[.string ⟨#[115]⟩, .int .i64 1, .int .i64 1, .int .i64 0] 52))
  have y2 := blk_cell HW1.out 2
  simp only [List.getElem?_toArray, List.getElem?_cons_succ, List.getElem?_cons_zero] at y2
  have hm25 : m2 ≤ 5 := by have := HM2.out; omega
  have HT2 := Lib.hid (show Kd.C k52 w a02 m2 (z.f2.take 5) from by
    have h := Kd.C_take (m := m2) H2.out (by have := HM2.out; omega)
    rw [List.length_take, Nat.min_eq_left (by have := HM2.out; omega)] at h
    rw [show z.f2.take 5 = z.f2.take m2 by rw [HM2.out, Nat.min_comm, List.take_eq_take_min]]
    exact h)
  obtain ⟨i52, hi52, _⟩ := Option.map_eq_some_iff.1 infoP52
  have hcut2 : ∀ W, (Instr.slice 23 (.slice a02 z.f2.length c02) none (some (.int .i64 (m2 : Int))) none).run Tryd.prog W = .ok (.slice a02 m2 c02) W := by
    intro W
    have h := cut_to 23 52 .i64 Tryd.underlying23 hi52 a02 z.f2.length c02 (m2 : Int) (by omega) (by have := HM2.out; omega) l2 W
    rwa [Int.toNat_natCast] at h
  clear hi52
  go_wp2_with (first | (at_builtin; refine Kd.R_append_rows k52 (Rr := k52.K (w1.alloc (.cells #[.string ⟨#[115]⟩, .int .i64 1, .int .i64 1, .int .i64 0] 52))) (w0 := w) w.heap.size rfl (.tmp 16) (.tmp 23) 23 52 _ _ rfl Tryd.underlying23 infoP52 rfl (by decide) (by omega) _ [(⟨⟨#[115]⟩, 1, 1, 0⟩ : S52)] (z.f2.take 5) _ _ _ (fun _ => True) (fun _ => False) rfl rfl ?aO ?aR (fun _ _ h => by rw [k52_open h]; exact k52_mkM _ _ _ _) (fun _ h => h.elim) (fun _ _ => trivial) ?aB ?aS ?aL ?_))
  case aO => exact R_one w1 w.heap.size 52 HP1.out.2.size _ _ (fun W => k52_mkM W _ _ _)
  case aR => exact Kd.C_below HT2.out (below_alloc HP1.out.2 _)
  case aB => exact below_alloc HP1.out.2 _
  case aS => have := HP1.out.2.size; simp; omega
  case aL => simp; omega
  intro v1 w2 hR2 hB2 hG2 hat2
  obtain ⟨ys, hys⟩ : ∃ ys, ys = (⟨⟨#[115]⟩, 1, 1, 0⟩ : S52) :: z.f2.take 5 := ⟨_, rfl⟩
  rw [← hys] at hR2
  have HYS := Lib.hid hys
  obtain ⟨AY, cY, rfl⟩ := Kd.R_slice hR2
  have HP2 := Lib.hid (show w2.heap[w.heap.size]? = some (.cells #[.int .i64 z.f0, .slice a01 z.f1.length c01, .slice a02 z.f2.length c02, .slice a03 z.f3.length c03, .slice a04 z.f4.length c04] 27 (0, 0)) from blk_grown HW1.out hG2 (by have := blk_lt HP1.out.1; simp [Value.ownBlock]; omega))
  have HR2 := Lib.hid hR2
  have HB2 := Lib.hid hB2
  clear hR2 hB2 hG2 hat2 hys x0 x1 x2 x3 x4 f2 f4 y2 HW1 hcut2 HT2
  have f2 := blk_frozen HP2.out 2
  have d2 := blk_cell HP2.out 2
  simp only [List.getElem?_toArray, List.getElem?_cons_succ, List.getElem?_cons_zero] at d2
  go_upto_region 4 with (fail)
  clear f2 d2
  obtain ⟨w3, hw3⟩ : ∃ w3, w3 = w2.setCell ⟨w.heap.size, 2, none⟩ (.slice AY ys.length cY) := ⟨_, rfl⟩
  have HP3 := Lib.hid (show w3.heap[w.heap.size]? = some (.cells #[.int .i64 z.f0, .slice a01 z.f1.length c01, .slice AY ys.length cY, .slice a03 z.f3.length c03, .slice a04 z.f4.length c04] 27 (0, 0)) ∧ Below w.heap.size w w3 from by
    rw [hw3]
    exact ⟨blk_put HP2.out 2 _ rfl, HB2.out.setCell (Nat.le_refl _) _⟩)
  have HR3 := Lib.hid (show Kd.R k52 52 w3 w.heap.size (fun _ => True) (.slice AY ys.length cY) ys from by rw [hw3]; exact Kd.R_set HR2.out HP2.out (by decide) 2 _)
  rw [← hw3]
  clear hw3 HP2 HB2 HR2 HP1
  have x4 := blk_cell HP3.out.1 4
  have HW3 := Lib.hid (blk_alloc HP3.out.1 (.cells #[.string ⟨#[120]⟩] 9))
  have y4 := blk_cell HW3.out 4
  simp only [List.getElem?_toArray, List.getElem?_cons_succ, List.getElem?_cons_zero] at x4 y4
  have t41 : (if (2 : Int) < (z.f4.length : Int) then (2 : Int) else (z.f4.length : Int)) = (m4 : Int) := by have := HM4.out; split <;> omega
  have t42 : (if 2 < z.f4.length then (2 : Int) else (z.f4.length : Int)) = (m4 : Int) := by have := HM4.out; split <;> omega
  have hm42 : m4 ≤ 2 := by have := HM4.out; omega
  have HT4 := Lib.hid (show Kd.C Kd.string w a04 m4 (z.f4.take 2) from by
    have h := Kd.C_take (m := m4) H4.out (by have := HM4.out; omega)
    rw [List.length_take, Nat.min_eq_left (by have := HM4.out; omega)] at h
    rw [show z.f4.take 2 = z.f4.take m4 by rw [HM4.out, Nat.min_comm, List.take_eq_take_min]]
    exact h)
  obtain ⟨i9, hi9, _⟩ := Option.map_eq_some_iff.1 infoP9
  have hcut4 : ∀ W, (Instr.slice 25 (.slice a04 z.f4.length c04) none (some (.int .i64 (m4 : Int))) none).run Tryd.prog W = .ok (.slice a04 m4 c04) W := by
    intro W
    have h := cut_to 25 9 .i64 Tryd.underlying25 hi9 a04 z.f4.length c04 (m4 : Int) (by omega) (by have := HM4.out; omega) l4 W
    rwa [Int.toNat_natCast] at h
  clear hi9
  go_wp2_with (first | (at_builtin; refine Kd.R_append_rows Kd.string (Rr := Kd.string.K (w3.alloc (.cells #[.string ⟨#[120]⟩] 9))) (w0 := w) w.heap.size rfl (.tmp 26) (.tmp 33) 25 9 _ _ rfl Tryd.underlying25 infoP9 rfl (by decide) (by omega) _ [(⟨#[120]⟩ : ByteArray)] (z.f4.take 2) _ _ _ (fun _ => True) (fun _ => False) rfl rfl ?aO ?aR (fun _ _ h => h) (fun _ h => h.elim) (fun _ _ => trivial) ?aB ?aS ?aL ?_))
  case aO => exact R_one w3 w.heap.size 9 HP3.out.2.size _ [.string ⟨#[120]⟩] (fun W => rfl)
  case aR => exact Kd.C_below HT4.out (below_alloc HP3.out.2 _)
  case aB => exact below_alloc HP3.out.2 _
  case aS => have := HP3.out.2.size; simp; omega
  case aL => simp; omega
  intro v1 w4 hR4 hB4 hG4 hat4
  obtain ⟨ts, hts⟩ : ∃ ts, ts = (⟨#[120]⟩ : ByteArray) :: z.f4.take 2 := ⟨_, rfl⟩
  rw [← hts] at hR4
  have HTS := Lib.hid hts
  obtain ⟨AT, cT, rfl⟩ := Kd.R_slice hR4
  have HP4 := Lib.hid (show w4.heap[w.heap.size]? = some (.cells #[.int .i64 z.f0, .slice a01 z.f1.length c01, .slice AY ys.length cY, .slice a03 z.f3.length c03, .slice a04 z.f4.length c04] 27 (0, 0)) from blk_grown HW3.out hG4 (by have := blk_lt HP3.out.1; simp [Value.ownBlock]; omega))
  have HR4 := Lib.hid hR4
  have HB4 := Lib.hid hB4
  have HY4 := Lib.hid (show Kd.R k52 52 w4 w.heap.size (fun _ => True) (.slice AY ys.length cY) ys from Kd.R_over' (Kd.R_alloc HR3.out _) (fun k hk => ⟨_, by
    have h2 : w3.heap.size = k := by simpa [Value.ownBlock] using hk
    subst h2
    exact blk_new w3 _⟩) (by decide) hG4)
  clear hR4 hB4 hG4 hat4 hts x4 y4 HW3 hcut4 HT4 t41 t42 HR3
  have f4 := blk_frozen HP4.out 4
  have d4 := blk_cell HP4.out 4
  simp only [List.getElem?_toArray, List.getElem?_cons_succ, List.getElem?_cons_zero] at d4
  go_upto_region 5 with (fail)
  clear f4 d4
  obtain ⟨w5, hw5⟩ : ∃ w5, w5 = w4.setCell ⟨w.heap.size, 4, none⟩ (.slice AT ts.length cT) := ⟨_, rfl⟩
  have HP5 := Lib.hid (show w5.heap[w.heap.size]? = some (.cells #[.int .i64 z.f0, .slice a01 z.f1.length c01, .slice AY ys.length cY, .slice a03 z.f3.length c03, .slice AT ts.length cT] 27 (0, 0)) ∧ Below w.heap.size w w5 from by
    rw [hw5]
    exact ⟨blk_put HP4.out 4 _ rfl, HB4.out.setCell (Nat.le_refl _) _⟩)
  have HR5 := Lib.hid (show Kd.R Kd.string 9 w5 w.heap.size (fun _ => True) (.slice AT ts.length cT) ts from by rw [hw5]; exact Kd.R_set HR4.out HP4.out (by decide) 4 _)
  have HY5 := Lib.hid (show Kd.R k52 52 w5 w.heap.size (fun _ => True) (.slice AY ys.length cY) ys from by rw [hw5]; exact Kd.R_set HY4.out HP4.out (by decide) 4 _)
  rw [← hw5]
  clear hw5 HP4 HB4 HR4 HY4 HP3
  have x0 := blk_cell HP5.out.1 0
  have x1 := blk_cell HP5.out.1 1
  have x2 := blk_cell HP5.out.1 2
  have x3 := blk_cell HP5.out.1 3
  have x4 := blk_cell HP5.out.1 4
  simp only [List.getElem?_toArray, List.getElem?_cons_succ, List.getElem?_cons_zero] at x0 x1 x2 x3 x4
  obtain ⟨zz, hzz⟩ : ∃ zz, zz = zD z := ⟨_, rfl⟩
  have HZZ := Lib.hid hzz
  have HMK := Lib.hid (show ∀ W, Below w5.heap.size w5 W → Calls Tryd.prog 9 #[.agg #[.int .i64 z.f0, .slice a01 z.f1.length c01, .slice AY ys.length cY, .slice a03 z.f3.length c03, .slice AT ts.length cT]] W (fun e w' => ∃ v, e = .returned v ∧ MDv zz w' v ∧ Below W.heap.size W w') from fun W hb => by
    have h := made_z (zD z) (zD_ok hz) a01 AY a03 AT c01 cY c03 cT W (Kd.C_below (Kd.C_below H1.out HP5.out.2) (hb.mono (Nat.le_refl _))) (Kd.C_below (by rw [← show ys = (zD z).f2 from HYS.out]; exact (Kd.R_reads' HY5.out).2.2) hb) (Kd.C_below (Kd.C_below H3.out HP5.out.2) hb) (Kd.C_below (by rw [← show ts = (zD z).f4 from HTS.out]; exact (Kd.R_reads' HR5.out).2.2) hb)
    rw [← show ys = (zD z).f2 from HYS.out, ← show ts = (zD z).f4 from HTS.out] at h
    rw [hzz]
    exact h)
  clear hzz H1 H2 H3 H4 HR5 HY5
  go_upto_region 6 with (first | (go_at_call 9; refine (HMK.out _ (Below.refl _ _)).mono ?_; rintro e w6 ⟨v, rfl, hM, hb⟩; have HM6 := Lib.hid hM; have HB6 := Lib.hid hb; clear hM hb) | (go_at_call 8; refine (told_z zz v w6 HM6.out).mono ?_; rintro e w7 ⟨u, rfl, ⟨B9, d9, B10, d10, rfl, hC9, hC10⟩, hb⟩; have HC9 := Lib.hid (Kd.R_reads' hC9).2.2; have HC10 := Lib.hid (Kd.R_reads' hC10).2.2; have HB7 := Lib.hid (HB6.out.trans (hb.mono HB6.out.size)); clear hC9 hC10 hb))
  clear x0 x1 x2 x3 x4 HMK HM6 HB6
  obtain ⟨wa, hwa⟩ : ∃ wa, wa = w7.alloc (.cells #[.bool (flagB zz.f0 1), .bool (flagB zz.f0 2), .int .u8 3, .int .u8 0, .string ⟨#[]⟩, .int .u64 1, .int .u64 243, .int .u64 16, .int .u64 5, .int .u64 1, .slice B9 (PM zz).L.length d9, .slice B10 (PM zz).D.length d10] 39) := ⟨_, rfl⟩
  have HA := Lib.hid (show wa.heap[w7.heap.size]? = some (.cells #[.bool (flagB zz.f0 1), .bool (flagB zz.f0 2), .int .u8 3, .int .u8 0, .string ⟨#[]⟩, .int .u64 1, .int .u64 243, .int .u64 16, .int .u64 5, .int .u64 1, .slice B9 (PM zz).L.length d9, .slice B10 (PM zz).D.length d10] 39 (0, 0)) by rw [hwa]; exact blk_new w7 _)
  have HA9 := Lib.hid (show Kd.C k58 wa B9 (PM zz).L.length (PM zz).L from by rw [hwa]; exact Kd.C_alloc HC9.out _)
  have HA10 := Lib.hid (show Kd.C k65 wa B10 (PM zz).D.length (PM zz).D from by rw [hwa]; exact Kd.C_alloc HC10.out _)
  have HBA := Lib.hid (show Below w.heap.size w wa from by rw [hwa]; exact below_alloc (HP5.out.2.trans (HB7.out.mono HP5.out.2.size)) _)
  rw [← hwa]
  clear hwa HC9 HC10 HB7 HP5
  obtain ⟨ga, hga⟩ : ∃ ga, ga = w7.heap.size := ⟨_, rfl⟩
  rw [← hga] at HA ⊢
  clear hga
  have p0 := blk_cell HA.out 0
  have p1 := blk_cell HA.out 1
  have p2 := blk_cell HA.out 2
  have p3 := blk_cell HA.out 3
  have p4 := blk_cell HA.out 4
  have p5 := blk_cell HA.out 5
  have p6 := blk_cell HA.out 6
  have p7 := blk_cell HA.out 7
  have p8 := blk_cell HA.out 8
  have p9 := blk_cell HA.out 9
  have p10 := blk_cell HA.out 10
  have p11 := blk_cell HA.out 11
  simp only [List.getElem?_toArray, List.getElem?_cons_succ, List.getElem?_cons_zero] at p0 p1 p2 p3 p4 p5 p6 p7 p8 p9 p10 p11
  go_upto_region 7 with (first | (go_at_call 13; refine (copyS_t zz B9 B10 d9 d10 _ HA9.out HA10.out).mono ?_; rintro e w3 ⟨g, cap, E10, e10, rfl, hS, hD, hB3⟩; have HS3 := Lib.hid hS; have HD3 := Lib.hid hD; have HB3 := Lib.hid hB3; clear hS hD hB3))
  clear p0 p1 p2 p3 p4 p5 p6 p7 p8 p9 p10 p11
  obtain ⟨wb, hwb⟩ : ∃ wb, wb = w3.alloc (.cells #[.bool (flagB zz.f0 1), .bool (flagB zz.f0 2), .int .u8 3, .int .u8 0, .string ⟨#[]⟩, .int .u64 1, .int .u64 243, .int .u64 16, .int .u64 5, .int .u64 1, .slice (some ⟨g, 0, none⟩) (PM zz).L.length cap, .slice E10 (PM zz).D.length e10] 39) := ⟨_, rfl⟩
  have HBST := Lib.hid (show BcSt wa wb w3.heap.size zz g cap E10 e10 from by
    rw [hwb]
    exact ⟨blk_new w3 _, below_alloc HB3.out _, Kd.S_alloc HS3.out _, Kd.R_alloc HD3.out _, HB3.out.size⟩)
  rw [← hwb]
  clear hwb HS3 HD3 HB3
  obtain ⟨gb, hgb⟩ : ∃ gb, gb = w3.heap.size := ⟨_, rfl⟩
  rw [← hgb] at HBST ⊢
  clear hgb
  have hn2 : 2 ≤ (PM zz).L.length := PM_L2 zz
  have hn13 : (PM zz).L.length ≤ 13 := PM_L16 zz
  obtain ⟨r1, hr1⟩ : ∃ r1, r1 = Int.tmod at_ ((PM zz).L.length : Int) := ⟨_, rfl⟩
  have hr1b : -((PM zz).L.length : Int) < r1 ∧ r1 < ((PM zz).L.length : Int) := by rw [hr1]; exact ⟨by have := Int.lt_tmod_of_pos at_ (show (0:Int) < ((PM zz).L.length : Int) by omega); omega, by have := Int.tmod_lt_of_pos at_ (show (0:Int) < ((PM zz).L.length : Int) by omega); omega⟩
  obtain ⟨k, hk⟩ : ∃ k : Nat, (k : Int) = Int.tmod (r1 + ((PM zz).L.length : Int)) ((PM zz).L.length : Int) := ⟨(Int.tmod (r1 + ((PM zz).L.length : Int)) ((PM zz).L.length : Int)).toNat, by
    have := Int.tmod_nonneg ((PM zz).L.length : Int) (show 0 ≤ r1 + ((PM zz).L.length : Int) by omega); omega⟩
  have hkn : k < (PM zz).L.length := by have := Int.tmod_lt_of_pos (r1 + ((PM zz).L.length : Int)) (show (0:Int) < ((PM zz).L.length : Int) by omega); omega
  have hn0 : ¬ ((PM zz).L.length : Int) = 0 := by omega
  have hn1 : ¬ (PM zz).L.length = 0 := by omega
  have t1 : Int.tmod at_ ((PM zz).L.length : Int) = r1 := hr1.symm
  have t2 : Int.tmod (r1 + ((PM zz).L.length : Int)) ((PM zz).L.length : Int) = (k : Int) := hk.symm
  have b1 : IntKind.i64.wrap (r1 + ((PM zz).L.length : Int)) = r1 + ((PM zz).L.length : Int) := by rw [IntKind.wrap_i64]; omega
  clear hr1 hk
  have q10 := blk_cell HBST.out.1 10
  simp only [List.getElem?_toArray, List.getElem?_cons_succ, List.getElem?_cons_zero] at q10
  go_cut [9] (fun s9 wx => s9 = .int .i64 k ∧ Hid (BcSt wa wx gb zz g cap E10 e10))
  case first =>
    go_quiet (fail)
    go_wp2
    go_meet
    case rel => exact ⟨rfl, Lib.hid (HBST.out.below (pw_below_drewN (Below.refl _ _) nq))⟩
  case rest =>
  obtain ⟨hs9, HBC⟩ := hcut
  subst hs9
  clear q10 HBST t1 t2 b1 hn0 hn1
  have q10 := blk_cell HBC.out.1 10
  simp only [List.getElem?_toArray, List.getElem?_cons_succ, List.getElem?_cons_zero] at q10
  have HNU := Lib.hid (fun W => number_any k (by omega) W)
  obtain ⟨sk, hsk⟩ : ∃ sk, sk = itoaR k := ⟨_, rfl⟩
  have hskl : sk.size ≤ 2 := by
    rw [hsk]
    unfold itoaR
    split
    · exact (by decide : 1 ≤ 2)
    · exact (by decide : 2 ≤ 2)
  have HSK := Lib.hid hsk
  rw [← hsk] at HNU
  clear hsk
  obtain ⟨r2, hr2⟩ : ∃ r2, r2 = Int.tmod what 15 := ⟨_, rfl⟩
  have hr2b : -15 < r2 ∧ r2 < 15 := by rw [hr2]; exact ⟨by have := Int.lt_tmod_of_pos what (show (0:Int) < 15 by decide); omega, by have := Int.tmod_lt_of_pos what (show (0:Int) < 15 by decide); omega⟩
  obtain ⟨m, hm⟩ : ∃ m : Nat, (m : Int) = Int.tmod (r2 + 15) 15 := ⟨(Int.tmod (r2 + 15) 15).toNat, by
    have := Int.tmod_nonneg 15 (show 0 ≤ r2 + 15 by omega); omega⟩
  have hm15 : m < 15 := by have := Int.tmod_lt_of_pos (r2 + 15) (show (0:Int) < 15 by decide); omega
  have t3 : Int.tmod what 15 = r2 := hr2.symm
  have t4 : Int.tmod (r2 + 15) 15 = (m : Int) := hm.symm
  clear hr2 hm
  have hsz1 : ¬ (9223372036854775807 < (⟨#[115, 101, 99, 116, 105, 111, 110, 32]⟩ : ByteArray).size + sk.size) := by
    show ¬ (9223372036854775807 < 8 + sk.size); omega
  go_upto_block 0 with (first | (go_at_call 14; refine (HNU.out _).mono ?_; rintro e wn ⟨rfl, hb⟩; have HBN := Lib.hid (HBC.out.below hb); clear hb))
  clear q10 HBC HNU t3 t4
  have hD3 := PM_D3 zz
  have HD0 := Lib.hid (show 0 < (PM zz).D.length from by
    rw [HZZ.out]
    show 0 < ((segsR (zD z).f4).map segT).length
    rw [List.length_map]
    unfold segsR
    rw [List.length_map, List.length_zipIdx, List.length_take]
    show 0 < min 3 (_ + 1)
    omega)
  go_cut [12] (fun s12 wx => s12 = .string (wantR m k) ∧ Hid (ChSt wa wx gb (chgM m k (PM zz))))
  case first =>
    have hmm : m = 0 ∨ m = 1 ∨ m = 2 ∨ m = 3 ∨ m = 4 ∨ m = 5 ∨ m = 6 ∨ m = 7 ∨ m = 8 ∨ m = 9 ∨ m = 10 ∨ m = 11 ∨ m = 12 ∨ m = 13 ∨ m = 14 := by omega
    have p0 := blk_cell HBN.out.1 0
    have p1 := blk_cell HBN.out.1 1
    have p2 := blk_cell HBN.out.1 2
    have p3 := blk_cell HBN.out.1 3
    have p4 := blk_cell HBN.out.1 4
    have p5 := blk_cell HBN.out.1 5
    have p6 := blk_cell HBN.out.1 6
    have p7 := blk_cell HBN.out.1 7
    have p8 := blk_cell HBN.out.1 8
    have p9 := blk_cell HBN.out.1 9
    have p10 := blk_cell HBN.out.1 10
    have p11 := blk_cell HBN.out.1 11
    simp only [List.getElem?_toArray, List.getElem?_cons_succ, List.getElem?_cons_zero] at p0 p1 p2 p3 p4 p5 p6 p7 p8 p9 p10 p11
    rcases hmm with rfl | rfl | rfl | rfl | rfl | rfl | rfl | rfl | rfl | rfl | rfl | rfl | rfl | rfl | rfl
    · as_aux_lemma =>
      have f0 := blk_frozen HBN.out.1 0
      go_wp2
      go_meet
      case rel => exact ⟨rfl, Lib.hid (c_head HBN.out 0 (.bool (!(flagB zz.f0 1))) _ rfl rfl rfl)⟩
    · as_aux_lemma =>
      have f3 := blk_frozen HBN.out.1 3
      go_wp2
      go_meet
      case rel => exact ⟨rfl, Lib.hid (c_head HBN.out 3 (.int .u8 1) _ rfl rfl rfl)⟩
    · as_aux_lemma =>
      have f6 := blk_frozen HBN.out.1 6
      go_wp2
      go_meet
      case rel => exact ⟨rfl, Lib.hid (c_head HBN.out 6 (.int .u64 244) _ rfl rfl rfl)⟩
    · as_aux_lemma =>
      have f9 := blk_frozen HBN.out.1 9
      go_wp2
      go_meet
      case rel => exact ⟨rfl, Lib.hid (c_head HBN.out 9 (.int .u64 2) _ rfl rfl rfl)⟩
    · go_wp2_with (first | (at_builtin; refine Kd.R_append k58 (w0 := wa) wa.heap.size rfl (.tmp 103) (.tmp 105) 36 58 _ _ rfl Tryd.underlying36 info58 rfl (by decide) (by omega) (.slice (some ⟨g, 0, none⟩) (PM zz).L.length cap) (PM zz).L z58 _ (fun _ => True) (fun _ => False) rfl rfl (k58_mkM _ _ _ z58 (Kd.R_nil _ _ _ _ _) (Kd.R_nil _ _ _ _ _) (Kd.R_nil _ _ _ _ _)) (fun _ h => h.elim) (fun _ _ => trivial) (Kd.S_R HBN.out.2.2.1) HBN.out.2.1 HBN.out.2.1.size (by omega) ?_))
      intro v1 w1 hR hB hG hat
      as_aux_lemma =>
        obtain ⟨L', hL'⟩ : ∃ L', L' = (PM zz).L ++ [z58] := ⟨_, rfl⟩
        rw [← hL'] at hR
        obtain ⟨A1, c1, rfl⟩ := Kd.R_slice hR
        have hc := c_append HBN.out hR hB hG
        have y10 := hc.1.1
        have f10 := hc.1.2
        have HC := Lib.hid hc.2
        have HLL := Lib.hid hL'
        clear hR hB hG hat hc hL' p0 p1 p2 p3 p4 p5 p6 p7 p8 p9 p10 p11
        go_wp2
        go_meet
        case rel => exact ⟨rfl, Lib.hid (by have e := HLL.out; subst e; exact HC.out)⟩
    · as_aux_lemma =>
      obtain ⟨v10, v11, v12, hcc, hfr, hput⟩ := c_cell HBN.out k hkn 5 (by decide) (by decide)
      have hsx : ¬ (9223372036854775807 < (PM zz).L[k].f0.size + 1) := by have := (PM_small zz _ (List.getElem_mem hkn)).1; omega
      obtain ⟨x, hx⟩ : ∃ x, (PM zz).L[k] = x := ⟨_, rfl⟩
      rw [hx] at hcc hput hsx
      have y0 := hcc 0 _ rfl
      have f0 := hfr 0
      rw [Nat.add_zero] at y0 f0
      have HP := Lib.hid hput
      clear hcc hfr hput hx
      go_wp2
      go_meet
      case rel => exact ⟨by first | (rw [HSK.out]; rfl) | rfl, Lib.hid (HP.out 0 (.string (x.f0 ++ (⟨#[120]⟩ : ByteArray))) (by decide) rfl)⟩
    · as_aux_lemma =>
      obtain ⟨v10, v11, v12, hcc, hfr, hput⟩ := c_cell HBN.out k hkn 6 (by decide) (by decide)
      have hsx : (PM zz).L[k] = (PM zz).L[k] := rfl
      obtain ⟨x, hx⟩ : ∃ x, (PM zz).L[k] = x := ⟨_, rfl⟩
      rw [hx] at hcc hput hsx
      have y5 := hcc 5 _ rfl
      have f5 := hfr 5
      have HP := Lib.hid hput
      clear hcc hfr hput hx
      go_wp2
      go_meet
      case rel => exact ⟨by first | (rw [HSK.out]; rfl) | rfl, Lib.hid (HP.out 5 (.int .u64 (IntKind.u64.wrap (x.f5 + 1))) (by decide) rfl)⟩
    · as_aux_lemma =>
      obtain ⟨v10, v11, v12, hcc, hfr, hput⟩ := c_cell HBN.out k hkn 7 (by decide) (by decide)
      have hsx : (PM zz).L[k] = (PM zz).L[k] := rfl
      obtain ⟨x, hx⟩ : ∃ x, (PM zz).L[k] = x := ⟨_, rfl⟩
      rw [hx] at hcc hput hsx
      have y8 := hcc 8 _ rfl
      have f8 := hfr 8
      have HP := Lib.hid hput
      clear hcc hfr hput hx
      go_wp2
      go_meet
      case rel => exact ⟨by first | (rw [HSK.out]; rfl) | rfl, Lib.hid (HP.out 8 (.int .u64 (IntKind.u64.wrap (x.f8 + 1))) (by decide) rfl)⟩
    · as_aux_lemma =>
      obtain ⟨v10, v11, v12, hcc, hfr, hput⟩ := c_cell HBN.out k hkn 8 (by decide) (by decide)
      have hsx : ¬ (9223372036854775807 < (PM zz).L[k].f9.size + 1) := by have := (PM_small zz _ (List.getElem_mem hkn)).2; omega
      obtain ⟨x, hx⟩ : ∃ x, (PM zz).L[k] = x := ⟨_, rfl⟩
      rw [hx] at hcc hput hsx
      have y9 := hcc 9 _ rfl
      have f9 := hfr 9
      have HP := Lib.hid hput
      clear hcc hfr hput hx
      go_wp2
      go_meet
      case rel => exact ⟨by first | (rw [HSK.out]; rfl) | rfl, Lib.hid (HP.out 9 (.string (x.f9 ++ (⟨#[120]⟩ : ByteArray))) (by decide) rfl)⟩
    · obtain ⟨oki, v10, v11, v12, hcc, hfr, g10, g11, g12, hoki, hH⟩ := c_lend HBN.out k hkn
      have hle : (PM zz).L[k].f10.length ≤ 17 := by have := PM_in zz _ (List.getElem_mem hkn); omega
      have y := hcc 10 _ rfl
      have HG1 := Lib.hid (fun A1 c1 w1 hR1 hB1 hG1 => c_row10 HBN.out k hkn g10 g11 g12 hoki hH (A1 := A1) (c1 := c1) (w1 := w1) hR1 hB1 hG1)
      have HGR := Lib.hid g10
      obtain ⟨xs, hxs⟩ : ∃ xs, xs = (PM zz).L[k].f10 := ⟨_, rfl⟩
      rw [← hxs] at HG1 HGR hle
      obtain ⟨AV, cV, hv⟩ := Kd.R_slice HGR.out
      subst hv
      clear hcc hfr g10 g11 g12 hxs
      go_wp2_with (first | (at_builtin; refine Kd.R_append k61 (w0 := wa) wa.heap.size rfl (.tmp 158) (.tmp 160) 54 61 _ _ rfl Tryd.underlying54 info61 rfl (by decide) (by omega) (.slice AV xs.length cV) xs z61 _ (fun q => oki q ∨ True ∧ wn.heap.size ≤ q) (fun _ => False) rfl rfl (k61_mkM _ _ _ _) (fun _ h => h.elim) (fun _ hq => .inr ⟨trivial, hq⟩) (Kd.R_mono HGR.out (fun _ h => .inl h)) HBN.out.2.1 HBN.out.2.1.size (by omega) ?_))
      intro v1 w1 hR hB hG hat
      as_aux_lemma =>
        obtain ⟨A1, c1, hv⟩ := Kd.R_slice hR
        rw [List.length_append, List.length_singleton] at hv
        subst hv
        have hc := HG1.out A1 c1 w1 (Kd.R_mono hR (fun _ h => h.imp id (fun h => ⟨trivial, h⟩))) hB hG
        have yy := hc.1.2
        have ff := hc.1.1
        have HC := Lib.hid hc.2
        clear hR hB hG hat hc y p0 p1 p2 p3 p4 p5 p6 p7 p8 p9 p10 p11 HG1 HGR
        go_wp2
        go_meet
        case rel => exact ⟨by first | (rw [HSK.out]; rfl) | rfl, Lib.hid HC.out⟩
    · obtain ⟨oki, v10, v11, v12, hcc, hfr, g10, g11, g12, hoki, hH⟩ := c_lend HBN.out k hkn
      have hle : (PM zz).L[k].f11.length ≤ 17 := by have := PM_in zz _ (List.getElem_mem hkn); omega
      have y := hcc 11 _ rfl
      have HG1 := Lib.hid (fun A1 c1 w1 hR1 hB1 hG1 => c_row11 HBN.out k hkn g10 g11 g12 hoki hH (A1 := A1) (c1 := c1) (w1 := w1) hR1 hB1 hG1)
      have HGR := Lib.hid g11
      obtain ⟨xs, hxs⟩ : ∃ xs, xs = (PM zz).L[k].f11 := ⟨_, rfl⟩
      rw [← hxs] at HG1 HGR hle
      obtain ⟨AV, cV, hv⟩ := Kd.R_slice HGR.out
      subst hv
      clear hcc hfr g10 g11 g12 hxs
      go_wp2_with (first | (at_builtin; refine Kd.R_append k63 (w0 := wa) wa.heap.size rfl (.tmp 172) (.tmp 174) 55 63 _ _ rfl Tryd.underlying55 info63 rfl (by decide) (by omega) (.slice AV xs.length cV) xs z63 _ (fun q => oki q ∨ True ∧ wn.heap.size ≤ q) (fun _ => False) rfl rfl (k63_mkM _ _ _ _) (fun _ h => h.elim) (fun _ hq => .inr ⟨trivial, hq⟩) (Kd.R_mono HGR.out (fun _ h => .inl h)) HBN.out.2.1 HBN.out.2.1.size (by omega) ?_))
      intro v1 w1 hR hB hG hat
      as_aux_lemma =>
        obtain ⟨A1, c1, hv⟩ := Kd.R_slice hR
        rw [List.length_append, List.length_singleton] at hv
        subst hv
        have hc := HG1.out A1 c1 w1 (Kd.R_mono hR (fun _ h => h.imp id (fun h => ⟨trivial, h⟩))) hB hG
        have yy := hc.1.2
        have ff := hc.1.1
        have HC := Lib.hid hc.2
        clear hR hB hG hat hc y p0 p1 p2 p3 p4 p5 p6 p7 p8 p9 p10 p11 HG1 HGR
        go_wp2
        go_meet
        case rel => exact ⟨by first | (rw [HSK.out]; rfl) | rfl, Lib.hid HC.out⟩
    · obtain ⟨oki, v10, v11, v12, hcc, hfr, g10, g11, g12, hoki, hH⟩ := c_lend HBN.out k hkn
      have hle : (PM zz).L[k].f12.length ≤ 17 := by have := PM_in zz _ (List.getElem_mem hkn); omega
      have y := hcc 12 _ rfl
      have HG1 := Lib.hid (fun A1 c1 w1 hR1 hB1 hG1 => c_row12 HBN.out k hkn g10 g11 g12 hoki hH (A1 := A1) (c1 := c1) (w1 := w1) hR1 hB1 hG1)
      have HGR := Lib.hid g12
      obtain ⟨xs, hxs⟩ : ∃ xs, xs = (PM zz).L[k].f12 := ⟨_, rfl⟩
      rw [← hxs] at HG1 HGR hle
      obtain ⟨AV, cV, hv⟩ := Kd.R_slice HGR.out
      subst hv
      clear hcc hfr g10 g11 g12 hxs
      go_wp2_with (first | (at_builtin; refine Kd.R_append (Kd.int .u64) (w0 := wa) wa.heap.size rfl (.tmp 186) (.tmp 187) 56 35 _ _ rfl Tryd.underlying56 info35 rfl (by decide) (by omega) (.slice AV xs.length cV) xs 0 _ (fun q => oki q ∨ True ∧ wn.heap.size ≤ q) (fun _ => False) rfl rfl rfl (fun _ h => h.elim) (fun _ hq => .inr ⟨trivial, hq⟩) (Kd.R_mono HGR.out (fun _ h => .inl h)) HBN.out.2.1 HBN.out.2.1.size (by omega) ?_))
      intro v1 w1 hR hB hG hat
      as_aux_lemma =>
        obtain ⟨A1, c1, hv⟩ := Kd.R_slice hR
        rw [List.length_append, List.length_singleton] at hv
        subst hv
        have hc := HG1.out A1 c1 w1 (Kd.R_mono hR (fun _ h => h.imp id (fun h => ⟨trivial, h⟩))) hB hG
        have yy := hc.1.2
        have ff := hc.1.1
        have HC := Lib.hid hc.2
        clear hR hB hG hat hc y p0 p1 p2 p3 p4 p5 p6 p7 p8 p9 p10 p11 HG1 HGR
        go_wp2
        go_meet
        case rel => exact ⟨by first | (rw [HSK.out]; rfl) | rfl, Lib.hid HC.out⟩
    · as_aux_lemma =>
      obtain ⟨i65, hi65, hz65⟩ := Option.map_eq_some_iff.1 infoG65
      have hz65' : i65.size = 7 := by simp only [Prod.mk.injEq] at hz65; exact hz65.2.1
      have hr := Kd.R_reads' HBN.out.2.2.2.1
      obtain ⟨EE, hEE⟩ : ∃ EE, EE = (if e10 = 1 then E10 else E10.map (·.add (1 * 7))) := ⟨_, rfl⟩
      obtain ⟨n1, hn1⟩ : ∃ n1, n1 = (PM zz).D.length - 1 := ⟨_, rfl⟩
      obtain ⟨e1, he1⟩ : ∃ e1, e1 = e10 - 1 := ⟨_, rfl⟩
      have hcutD : ∀ W, (Instr.slice 37 (.slice E10 (PM zz).D.length e10) (some (.int .i64 1)) none none).run Tryd.prog W = .ok (.slice EE n1 e1) W := by
        intro W
        rw [hEE, hn1, he1]
        exact cut_from 37 65 .i64 Tryd.underlying37 hi65 7 hz65' E10 (PM zz).D.length e10 1 (by decide) (by have := HD0.out; omega) W
      have HE := Lib.hid (And.intro hEE (And.intro hn1 he1))
      have f11 := blk_frozen HBN.out.1 11
      clear hEE hn1 he1 hi65 hz65 hr
      go_wp2
      go_meet
      case rel => exact ⟨rfl, Lib.hid (by have e := HE.out; obtain ⟨e1, e2, e3⟩ := e; subst e1; subst e2; subst e3; exact c_tail HBN.out (by have := HD0.out; omega))⟩
    · as_aux_lemma =>
      obtain ⟨gd, hE, y6, f6, hput⟩ := c_seg HBN.out HD0.out
      subst hE
      have hsx : ¬ (9223372036854775807 < ((PM zz).D[0]'(HD0.out)).f6.size + 1) := by have := PM_seg zz _ (List.getElem_mem HD0.out); omega
      obtain ⟨y, hy⟩ : ∃ y, (PM zz).D[0]'(HD0.out) = y := ⟨_, rfl⟩
      have HP := Lib.hid (fun s => (show ChSt wa (wn.setCell ⟨gd, 6, none⟩ (.string s)) gb { PM zz with D := (PM zz).D.set 0 { (PM zz).D[0]'(HD0.out) with f6 := s } } from hput s))
      have HMS := Lib.hid (modify_set (fun y : S65 => { y with f6 := y.f6 ++ (⟨#[120]⟩ : ByteArray) }) (PM zz).D 0 HD0.out)
      rw [hy] at y6 hsx HP HMS
      have hdl : (0 : Int) < ((PM zz).D.length : Int) := by have := HD0.out; omega
      have hdn : 0 < (PM zz).D.length := HD0.out
      clear hput hy
      go_wp2
      go_meet
      case rel => exact ⟨rfl, Lib.hid (by show ChSt _ _ _ { PM zz with D := (PM zz).D.modify 0 _ }; rw [HMS.out]; exact HP.out _)⟩
    · as_aux_lemma =>
      have f4 := blk_frozen HBN.out.1 4
      go_wp2
      go_meet
      case rel => exact ⟨rfl, Lib.hid (c_head HBN.out 4 (.string ⟨#[120, 120, 120, 120, 120, 120, 120]⟩) _ rfl rfl rfl)⟩
  case rest => as_aux_lemma =>
    obtain ⟨hs12, HCC⟩ := hcut
    subst hs12
    obtain ⟨E9, cq9, F10, cf10, hbb, hbl, hc9, hc10⟩ := HCC.out
    have HBB := Lib.hid hbb
    have HBL := Lib.hid hbl
    have HE9 := Lib.hid hc9
    have HF10 := Lib.hid hc10
    have hW := chg_diff (PM zz) rfl rfl rfl m k hm15 hkn HD0.out
    have hlen := chg_len m k (PM zz)
    have HSX := Lib.hid (fun h4 => chg_sec (PM zz) m k hm15 h4 hkn)
    have HW4 := Lib.hid (And.intro (want_sections m k hm15) (want_tests m k hm15))
    have h4W : m = 4 → wantR m k = ⟨#[115, 101, 99, 116, 105, 111, 110, 115]⟩ := fun h => by subst h; rfl
    have hkb : k < (chgM m k (PM zz)).L.length := by
      by_cases h4 : m = 4
      · subst h4
        show k < ((PM zz).L ++ [_]).length
        rw [List.length_append]; omega
      · exact (HSX.out h4).1
    obtain ⟨b, hb⟩ : ∃ b, b = chgM m k (PM zz) := ⟨_, rfl⟩
    obtain ⟨W, hWW⟩ : ∃ W, W = wantR m k := ⟨_, rfl⟩
    rw [← hb] at HBB HE9 HF10 hW hlen hkb HSX
    rw [← hWW] at hW HW4 h4W ⊢
    have HH4 := Lib.hid h4W
    clear hbb hbl hc9 hc10 HCC hb hWW h4W
    have hLb : b.L.length ≤ 16 := by omega
    have hDb : b.D.length ≤ 16 := by omega
    have HA2 := Lib.hid (blk_below HA.out HBL.out)
    have HL0 := Lib.hid (Kd.C_below HA9.out HBL.out)
    have HS0 := Lib.hid (Kd.C_below HA10.out HBL.out)
    have HDI := Lib.hid (show ∀ V, Below wc.heap.size wc V → Calls Tryd.prog 12 #[.agg #[.bool (flagB zz.f0 1), .bool (flagB zz.f0 2), .int .u8 3, .int .u8 0, .string ⟨#[]⟩, .int .u64 1, .int .u64 243, .int .u64 16, .int .u64 5, .int .u64 1, .slice B9 (PM zz).L.length d9, .slice B10 (PM zz).D.length d10], .agg #[.bool b.big, .bool b.wide, .int .u8 b.abi, .int .u8 b.ver, .string b.pad, .int .u64 b.ty, .int .u64 b.mc, .int .u64 b.en, .int .u64 b.fg, .int .u64 b.nm, .slice E9 b.L.length cq9, .slice F10 b.D.length cf10]] V (fun e w' => e = .returned (.string W) ∧ Below V.heap.size V w') from fun V hv => by
      have h := diff_any (PM zz) b (by omega) (by omega) B9 B10 E9 F10 d9 d10 cq9 cf10 V (Kd.C_below HL0.out hv) (Kd.C_below HS0.out hv) (Kd.C_below HE9.out hv) (Kd.C_below HF10.out hv)
      rw [hW] at h
      exact h)
    have HDJ := Lib.hid (show ∀ V, Below wc.heap.size wc V → Calls Tryd.prog 12 #[.agg #[.bool b.big, .bool b.wide, .int .u8 b.abi, .int .u8 b.ver, .string b.pad, .int .u64 b.ty, .int .u64 b.mc, .int .u64 b.en, .int .u64 b.fg, .int .u64 b.nm, .slice E9 b.L.length cq9, .slice F10 b.D.length cf10], .agg #[.bool (flagB zz.f0 1), .bool (flagB zz.f0 2), .int .u8 3, .int .u8 0, .string ⟨#[]⟩, .int .u64 1, .int .u64 243, .int .u64 16, .int .u64 5, .int .u64 1, .slice B9 (PM zz).L.length d9, .slice B10 (PM zz).D.length d10]] V (fun e w' => e = .returned (.string W) ∧ Below V.heap.size V w') from fun V hv => by
      have h := diff_any b (PM zz) (by omega) (by omega) E9 F10 B9 B10 cq9 cf10 d9 d10 V (Kd.C_below HE9.out hv) (Kd.C_below HF10.out hv) (Kd.C_below HL0.out hv) (Kd.C_below HS0.out hv)
      rw [diffR_comm, hW] at h
      exact h)
    obtain ⟨q, hq⟩ : ∃ q : Bool, eqC W ⟨#[]⟩ = q := ⟨_, rfl⟩
    have HMO := Lib.hid (show ∀ V, Below wc.heap.size wc V → Calls Tryd.prog 10 #[.agg #[.bool (flagB zz.f0 1), .bool (flagB zz.f0 2), .int .u8 3, .int .u8 0, .string ⟨#[]⟩, .int .u64 1, .int .u64 243, .int .u64 16, .int .u64 5, .int .u64 1, .slice B9 (PM zz).L.length d9, .slice B10 (PM zz).D.length d10], .agg #[.bool b.big, .bool b.wide, .int .u8 b.abi, .int .u8 b.ver, .string b.pad, .int .u64 b.ty, .int .u64 b.mc, .int .u64 b.en, .int .u64 b.fg, .int .u64 b.nm, .slice E9 b.L.length cq9, .slice F10 b.D.length cf10]] V (fun e w' => e = .returned (.bool q) ∧ Below V.heap.size V w') from fun V hv => by
      have h := models_any (PM zz) b (by omega) (by omega) B9 B10 E9 F10 d9 d10 cq9 cf10 V (Kd.C_below HL0.out hv) (Kd.C_below HS0.out hv) (Kd.C_below HE9.out hv) (Kd.C_below HF10.out hv)
      rw [hW, hq] at h
      exact h)
    have hww : (W.toList != W.toList) = false := bne_self_eq_false _
    have n00 : (W.toList == ([] : List UInt8)) = q := (ba_empty W).trans hq
    have n01 : W.toList.isEmpty = q := (ba_isEmpty W).trans hq
    have hqq : (q != q) = false := bne_self_eq_false _
    clear hW hq
    have x_0 := blk_cell HA2.out 0
    have x_1 := blk_cell HA2.out 1
    have x_2 := blk_cell HA2.out 2
    have x_3 := blk_cell HA2.out 3
    have x_4 := blk_cell HA2.out 4
    have x_5 := blk_cell HA2.out 5
    have x_6 := blk_cell HA2.out 6
    have x_7 := blk_cell HA2.out 7
    have x_8 := blk_cell HA2.out 8
    have x_9 := blk_cell HA2.out 9
    have x_10 := blk_cell HA2.out 10
    have x_11 := blk_cell HA2.out 11
    have y_0 := blk_cell HBB.out 0
    have y_1 := blk_cell HBB.out 1
    have y_2 := blk_cell HBB.out 2
    have y_3 := blk_cell HBB.out 3
    have y_4 := blk_cell HBB.out 4
    have y_5 := blk_cell HBB.out 5
    have y_6 := blk_cell HBB.out 6
    have y_7 := blk_cell HBB.out 7
    have y_8 := blk_cell HBB.out 8
    have y_9 := blk_cell HBB.out 9
    have y_10 := blk_cell HBB.out 10
    have y_11 := blk_cell HBB.out 11
    simp only [List.getElem?_toArray, List.getElem?_cons_succ, List.getElem?_cons_zero] at x_0 y_0 x_1 y_1 x_2 y_2 x_3 y_3 x_4 y_4 x_5 y_5 x_6 y_6 x_7 y_7 x_8 y_8 x_9 y_9 x_10 y_10 x_11 y_11
    go_upto_region 57 with (first
      | (have hh := HV2; clear hh; go_at_call 10; refine (HMO.out _ HV2.out).mono ?_; rintro e wv3 ⟨rfl, hb⟩; have HV3 := Lib.hid (HV2.out.trans (hb.mono HV2.out.size)); clear hb)
      | (have hh := HV1; clear hh; go_at_call 12; refine (HDJ.out _ HV1.out).mono ?_; rintro e wv2 ⟨rfl, hb⟩; have HV2 := Lib.hid (HV1.out.trans (hb.mono HV1.out.size)); clear hb x_0 y_0 x_1 y_1 x_2 y_2 x_3 y_3 x_4 y_4 x_5 y_5 x_6 y_6 x_7 y_7 x_8 y_8 x_9 y_9 x_10 y_10 x_11 y_11; have x_0 := blk_cell (blk_below HA2.out HV2.out) 0; have x_1 := blk_cell (blk_below HA2.out HV2.out) 1; have x_2 := blk_cell (blk_below HA2.out HV2.out) 2; have x_3 := blk_cell (blk_below HA2.out HV2.out) 3; have x_4 := blk_cell (blk_below HA2.out HV2.out) 4; have x_5 := blk_cell (blk_below HA2.out HV2.out) 5; have x_6 := blk_cell (blk_below HA2.out HV2.out) 6; have x_7 := blk_cell (blk_below HA2.out HV2.out) 7; have x_8 := blk_cell (blk_below HA2.out HV2.out) 8; have x_9 := blk_cell (blk_below HA2.out HV2.out) 9; have x_10 := blk_cell (blk_below HA2.out HV2.out) 10; have x_11 := blk_cell (blk_below HA2.out HV2.out) 11; have y_0 := blk_cell (blk_below HBB.out HV2.out) 0; have y_1 := blk_cell (blk_below HBB.out HV2.out) 1; have y_2 := blk_cell (blk_below HBB.out HV2.out) 2; have y_3 := blk_cell (blk_below HBB.out HV2.out) 3; have y_4 := blk_cell (blk_below HBB.out HV2.out) 4; have y_5 := blk_cell (blk_below HBB.out HV2.out) 5; have y_6 := blk_cell (blk_below HBB.out HV2.out) 6; have y_7 := blk_cell (blk_below HBB.out HV2.out) 7; have y_8 := blk_cell (blk_below HBB.out HV2.out) 8; have y_9 := blk_cell (blk_below HBB.out HV2.out) 9; have y_10 := blk_cell (blk_below HBB.out HV2.out) 10; have y_11 := blk_cell (blk_below HBB.out HV2.out) 11; simp only [List.getElem?_toArray, List.getElem?_cons_succ, List.getElem?_cons_zero] at x_0 y_0 x_1 y_1 x_2 y_2 x_3 y_3 x_4 y_4 x_5 y_5 x_6 y_6 x_7 y_7 x_8 y_8 x_9 y_9 x_10 y_10 x_11 y_11)
      | (go_at_call 12; refine (HDI.out _ (Below.refl _ _)).mono ?_; rintro e wv1 ⟨rfl, hb⟩; have HV1 := Lib.hid hb; clear hb x_0 y_0 x_1 y_1 x_2 y_2 x_3 y_3 x_4 y_4 x_5 y_5 x_6 y_6 x_7 y_7 x_8 y_8 x_9 y_9 x_10 y_10 x_11 y_11; have x_0 := blk_cell (blk_below HA2.out HV1.out) 0; have x_1 := blk_cell (blk_below HA2.out HV1.out) 1; have x_2 := blk_cell (blk_below HA2.out HV1.out) 2; have x_3 := blk_cell (blk_below HA2.out HV1.out) 3; have x_4 := blk_cell (blk_below HA2.out HV1.out) 4; have x_5 := blk_cell (blk_below HA2.out HV1.out) 5; have x_6 := blk_cell (blk_below HA2.out HV1.out) 6; have x_7 := blk_cell (blk_below HA2.out HV1.out) 7; have x_8 := blk_cell (blk_below HA2.out HV1.out) 8; have x_9 := blk_cell (blk_below HA2.out HV1.out) 9; have x_10 := blk_cell (blk_below HA2.out HV1.out) 10; have x_11 := blk_cell (blk_below HA2.out HV1.out) 11; have y_0 := blk_cell (blk_below HBB.out HV1.out) 0; have y_1 := blk_cell (blk_below HBB.out HV1.out) 1; have y_2 := blk_cell (blk_below HBB.out HV1.out) 2; have y_3 := blk_cell (blk_below HBB.out HV1.out) 3; have y_4 := blk_cell (blk_below HBB.out HV1.out) 4; have y_5 := blk_cell (blk_below HBB.out HV1.out) 5; have y_6 := blk_cell (blk_below HBB.out HV1.out) 6; have y_7 := blk_cell (blk_below HBB.out HV1.out) 7; have y_8 := blk_cell (blk_below HBB.out HV1.out) 8; have y_9 := blk_cell (blk_below HBB.out HV1.out) 9; have y_10 := blk_cell (blk_below HBB.out HV1.out) 10; have y_11 := blk_cell (blk_below HBB.out HV1.out) 11; simp only [List.getElem?_toArray, List.getElem?_cons_succ, List.getElem?_cons_zero] at x_0 y_0 x_1 y_1 x_2 y_2 x_3 y_3 x_4 y_4 x_5 y_5 x_6 y_6 x_7 y_7 x_8 y_8 x_9 y_9 x_10 y_10 x_11 y_11))
    clear x_0 y_0 x_1 y_1 x_2 y_2 x_3 y_3 x_4 y_4 x_5 y_5 x_6 y_6 x_7 y_7 x_8 y_8 x_9 y_9 x_10 y_10 x_11 y_11 HDI HDJ HMO hww n00 n01 hqq HV1 HV2
    have y10 := blk_cell (blk_below HBB.out HV3.out) 10
    simp only [List.getElem?_toArray, List.getElem?_cons_succ, List.getElem?_cons_zero] at y10
    have hk3 : (k : Int) < (b.L.length : Int) := by omega
    have hk4 : decide ((k : Int) < (b.L.length : Int)) = true := by simp; omega
    have hk6 : decide (k < b.L.length) = true := by simp; omega
    by_cases h4 : m = 4
    · have hws2 : (W.toList == [115, 101, 99, 116, 105, 111, 110, 115]) = true := by rw [HH4.out h4, Lib.toList_data]; exact beq_iff_eq.2 rfl
      go_wp2
      go_ret
      exact ⟨rfl, (HBA.out.trans (HBL.out.mono HBA.out.size)).trans (HV3.out.mono (Nat.le_trans HBA.out.size HBL.out.size))⟩
    · have hws2 : (W.toList == [115, 101, 99, 116, 105, 111, 110, 115]) = false := by
        have h := HW4.out.1 h4
        rwa [Lib.toList_data (⟨#[115, 101, 99, 116, 105, 111, 110, 115]⟩ : ByteArray)] at h
      have hka : k < (PM zz).L.length := hkn
      obtain ⟨hkb2, hsec⟩ := HSX.out h4
      have HT := Lib.hid (HW4.out.2 h4)
      have HSEC := Lib.hid hsec
      clear hsec HSX HW4 HH4
      obtain ⟨ad, A0, a0, A1, a1, A2, a2, hA, o0, o1, o2, o3, o4, o5, o6, o7, o8, o9, o10, o11, o12, l0, g0, l1, g1, l2, g2⟩ := at_T58 HL0.out (k : Int) (by omega) (by omega)
      obtain ⟨bd, Q0, b0, Q1, b1, Q2, b2, hB, n0, n1, n2, n3, n4, n5, n6, n7, n8, n9, n10, n11, n12, m0, j0, m1, j1, m2, j2⟩ := at_T58 HE9.out (k : Int) (by omega) (by omega)
      rw [Int.toNat_natCast] at o0 o1 o2 o3 o4 o5 o6 o7 o8 o9 o10 o11 o12 n0 n1 n2 n3 n4 n5 n6 n7 n8 n9 n10 n11 n12
      obtain ⟨x, hxe⟩ : ∃ x, x = rd_T58 (PM zz).L (k : Int) := ⟨_, rfl⟩
      obtain ⟨y, hye⟩ : ∃ y, y = rd_T58 b.L (k : Int) := ⟨_, rfl⟩
      have hX : (PM zz).L[k] = x := by rw [hxe]; unfold rd_T58; rw [Int.toNat_natCast]; simp [List.getD, hka]
      have hY : b.L[k] = y := by rw [hye]; unfold rd_T58; rw [Int.toNat_natCast]; simp [List.getD, hkb2]
      rw [hX, hY] at HSEC
      rw [← hxe] at o0 o1 o2 o3 o4 o5 o6 o7 o8 o9 o10 o11 o12 l0 g0 l1 g1 l2 g2
      rw [← hye] at n0 n1 n2 n3 n4 n5 n6 n7 n8 n9 n10 n11 n12 m0 j0 m1 j1 m2 j2
      clear hxe hye hX hY
      subst hA
      subst hB
      have HG := Lib.hid (fun V (hb : Below wc.heap.size wc V) => sameSecs_any x y A0 A1 A2 Q0 Q1 Q2 a0 a1 a2 b0 b1 b2 V l0 (Kd.C_below g0 hb) l1 (Kd.C_below g1 hb) l2 (Kd.C_below g2 hb) m0 (Kd.C_below j0 hb) m1 (Kd.C_below j1 hb) m2 (Kd.C_below j2 hb))
      clear l0 g0 l1 g1 l2 g2 m0 j0 m1 j1 m2 j2
      obtain ⟨sb, hsb⟩ : ∃ sb : Bool, (decide (5 ≤ m) && decide (m ≤ 11)) = sb := ⟨_, rfl⟩
      rw [hsb] at HSEC HT
      clear hsb
      obtain ⟨d8, hd8⟩ : ∃ d8 : Bool, decide (8 < W.size) = d8 := ⟨_, rfl⟩
      have hd9 : decide ((8 : Int) < (W.size : Int)) = d8 := by rw [← hd8]; congr 1; apply propext; omega
      have HD8 := Lib.hid hd8
      go_upto_region 58 with (fail)
      clear y10 hws2
      have HVd := Lib.hid (show Below wc.heap.size wc wv3.drew from below_drew1 HV3.out)
      have HAd := Lib.hid (blk_drew (blk_below HA2.out HV3.out))
      have HBd := Lib.hid (blk_drew (blk_below HBB.out HV3.out))
      have p0 := (HVd.out.cell (World.block_lt_of_cell? wc _ o0)).trans o0
      have q0 := (HVd.out.cell (World.block_lt_of_cell? wc _ n0)).trans n0
      have p1 := (HVd.out.cell (World.block_lt_of_cell? wc _ o1)).trans o1
      have q1 := (HVd.out.cell (World.block_lt_of_cell? wc _ n1)).trans n1
      have p2 := (HVd.out.cell (World.block_lt_of_cell? wc _ o2)).trans o2
      have q2 := (HVd.out.cell (World.block_lt_of_cell? wc _ n2)).trans n2
      have p3 := (HVd.out.cell (World.block_lt_of_cell? wc _ o3)).trans o3
      have q3 := (HVd.out.cell (World.block_lt_of_cell? wc _ n3)).trans n3
      have p4 := (HVd.out.cell (World.block_lt_of_cell? wc _ o4)).trans o4
      have q4 := (HVd.out.cell (World.block_lt_of_cell? wc _ n4)).trans n4
      have p5 := (HVd.out.cell (World.block_lt_of_cell? wc _ o5)).trans o5
      have q5 := (HVd.out.cell (World.block_lt_of_cell? wc _ n5)).trans n5
      have p6 := (HVd.out.cell (World.block_lt_of_cell? wc _ o6)).trans o6
      have q6 := (HVd.out.cell (World.block_lt_of_cell? wc _ n6)).trans n6
      have p7 := (HVd.out.cell (World.block_lt_of_cell? wc _ o7)).trans o7
      have q7 := (HVd.out.cell (World.block_lt_of_cell? wc _ n7)).trans n7
      have p8 := (HVd.out.cell (World.block_lt_of_cell? wc _ o8)).trans o8
      have q8 := (HVd.out.cell (World.block_lt_of_cell? wc _ n8)).trans n8
      have p9 := (HVd.out.cell (World.block_lt_of_cell? wc _ o9)).trans o9
      have q9 := (HVd.out.cell (World.block_lt_of_cell? wc _ n9)).trans n9
      have p10 := (HVd.out.cell (World.block_lt_of_cell? wc _ o10)).trans o10
      have q10 := (HVd.out.cell (World.block_lt_of_cell? wc _ n10)).trans n10
      have p11 := (HVd.out.cell (World.block_lt_of_cell? wc _ o11)).trans o11
      have q11 := (HVd.out.cell (World.block_lt_of_cell? wc _ n11)).trans n11
      have p12 := (HVd.out.cell (World.block_lt_of_cell? wc _ o12)).trans o12
      have q12 := (HVd.out.cell (World.block_lt_of_cell? wc _ n12)).trans n12
      refine start_ (n := 22) (S := fun w' => w'.cell? ⟨ga, 10, none⟩ = some (.slice (some ad) (PM zz).L.length d9) ∧ w'.cell? ⟨gb, 10, none⟩ = some (.slice (some bd) b.L.length cq9) ∧ w'.cell? (ad.add (k * 13)) = some (.string x.f0) ∧ w'.cell? ⟨(ad.add (k * 13)).block, (ad.add (k * 13)).off + 1, none⟩ = some (.int .u64 x.f1) ∧ w'.cell? ⟨(ad.add (k * 13)).block, (ad.add (k * 13)).off + 2, none⟩ = some (.int .u64 x.f2) ∧ w'.cell? ⟨(ad.add (k * 13)).block, (ad.add (k * 13)).off + 3, none⟩ = some (.int .u64 x.f3) ∧ w'.cell? ⟨(ad.add (k * 13)).block, (ad.add (k * 13)).off + 4, none⟩ = some (.int .u64 x.f4) ∧ w'.cell? ⟨(ad.add (k * 13)).block, (ad.add (k * 13)).off + 5, none⟩ = some (.int .u64 x.f5) ∧ w'.cell? ⟨(ad.add (k * 13)).block, (ad.add (k * 13)).off + 6, none⟩ = some (.int .u64 x.f6) ∧ w'.cell? ⟨(ad.add (k * 13)).block, (ad.add (k * 13)).off + 7, none⟩ = some (.int .u64 x.f7) ∧ w'.cell? ⟨(ad.add (k * 13)).block, (ad.add (k * 13)).off + 8, none⟩ = some (.int .u64 x.f8) ∧ w'.cell? ⟨(ad.add (k * 13)).block, (ad.add (k * 13)).off + 9, none⟩ = some (.string x.f9) ∧ w'.cell? ⟨(ad.add (k * 13)).block, (ad.add (k * 13)).off + 10, none⟩ = some (.slice A0 x.f10.length a0) ∧ w'.cell? ⟨(ad.add (k * 13)).block, (ad.add (k * 13)).off + 11, none⟩ = some (.slice A1 x.f11.length a1) ∧ w'.cell? ⟨(ad.add (k * 13)).block, (ad.add (k * 13)).off + 12, none⟩ = some (.slice A2 x.f12.length a2) ∧ w'.cell? (bd.add (k * 13)) = some (.string y.f0) ∧ w'.cell? ⟨(bd.add (k * 13)).block, (bd.add (k * 13)).off + 1, none⟩ = some (.int .u64 y.f1) ∧ w'.cell? ⟨(bd.add (k * 13)).block, (bd.add (k * 13)).off + 2, none⟩ = some (.int .u64 y.f2) ∧ w'.cell? ⟨(bd.add (k * 13)).block, (bd.add (k * 13)).off + 3, none⟩ = some (.int .u64 y.f3) ∧ w'.cell? ⟨(bd.add (k * 13)).block, (bd.add (k * 13)).off + 4, none⟩ = some (.int .u64 y.f4) ∧ w'.cell? ⟨(bd.add (k * 13)).block, (bd.add (k * 13)).off + 5, none⟩ = some (.int .u64 y.f5) ∧ w'.cell? ⟨(bd.add (k * 13)).block, (bd.add (k * 13)).off + 6, none⟩ = some (.int .u64 y.f6) ∧ w'.cell? ⟨(bd.add (k * 13)).block, (bd.add (k * 13)).off + 7, none⟩ = some (.int .u64 y.f7) ∧ w'.cell? ⟨(bd.add (k * 13)).block, (bd.add (k * 13)).off + 8, none⟩ = some (.int .u64 y.f8) ∧ w'.cell? ⟨(bd.add (k * 13)).block, (bd.add (k * 13)).off + 9, none⟩ = some (.string y.f9) ∧ w'.cell? ⟨(bd.add (k * 13)).block, (bd.add (k * 13)).off + 10, none⟩ = some (.slice Q0 y.f10.length b0) ∧ w'.cell? ⟨(bd.add (k * 13)).block, (bd.add (k * 13)).off + 11, none⟩ = some (.slice Q1 y.f11.length b1) ∧ w'.cell? ⟨(bd.add (k * 13)).block, (bd.add (k * 13)).off + 12, none⟩ = some (.slice Q2 y.f12.length b2)) (ds := []) #[false, false, false, false, false, false, false, false, false, false, false, false, false, false, false, false, false, false, false, false, false, false] (by kernel_rfl) (by rfl) (by rfl) ⟨blk_cell HAd.out 10, blk_cell HBd.out 10, p0, p1, p2, p3, p4, p5, p6, p7, p8, p9, p10, p11, p12, q0, q1, q2, q3, q4, q5, q6, q7, q8, q9, q10, q11, q12⟩ (fun hHeld => ?_)
      generalize wv3.drew = wd at HVd HAd HBd p0 q0 p1 q1 p2 q2 p3 q3 p4 q4 p5 q5 p6 q6 p7 q7 p8 q8 p9 q9 p10 q10 p11 q11 p12 q12 hHeld ⊢
      refine pure_ (i := 0) (N := some 238) (v := ?_) (a' := ?_) #[true, false, false, false, false, false, false, false, false, false, false, false, false, false, false, false, false, false, false, false, false, false] rfl rfl (by kernel_rfl) (fun _ _ _ h => h) (Or.inl ⟨by rfl, ?_⟩) ?_ ?_
      rotate_left
      · intro w'
        go_simp
        with_reducible rfl
      rotate_left
      · simp only [Act.put, List.setIfInBounds_toArray, List.set_cons_zero, List.set_cons_succ]
        rfl
      refine pure_ (i := 2) (N := some 240) (v := ?_) (a' := ?_) #[true, false, true, false, false, false, false, false, false, false, false, false, false, false, false, false, false, false, false, false, false, false] rfl rfl (by kernel_rfl) (fun _ _ _ h => h) (Or.inl ⟨by rfl, ?_⟩) ?_ ?_
      rotate_left
      · intro w'
        go_simp
        with_reducible rfl
      rotate_left
      · simp only [Act.put, List.setIfInBounds_toArray, List.set_cons_zero, List.set_cons_succ]
        rfl
      refine pure_ (i := 5) (N := some 243) (v := ?_) (a' := ?_) #[true, false, true, false, false, true, false, false, false, false, false, false, false, false, false, false, false, false, false, false, false, false] rfl rfl (by kernel_rfl) (fun _ _ _ h => h) (Or.inl ⟨by rfl, ?_⟩) ?_ ?_
      rotate_left
      · intro w'
        go_simp
        with_reducible rfl
      rotate_left
      · simp only [Act.put, List.setIfInBounds_toArray, List.set_cons_zero, List.set_cons_succ]
        rfl
      refine pure_ (i := 7) (N := some 245) (v := ?_) (a' := ?_) #[true, false, true, false, false, true, false, true, false, false, false, false, false, false, false, false, false, false, false, false, false, false] rfl rfl (by kernel_rfl) (fun _ _ _ h => h) (Or.inl ⟨by rfl, ?_⟩) ?_ ?_
      rotate_left
      · intro w'
        go_simp
        with_reducible rfl
      rotate_left
      · simp only [Act.put, List.setIfInBounds_toArray, List.set_cons_zero, List.set_cons_succ]
        rfl
      refine take_ (i := 1) (N := some 239) (v := ?_) (a' := ?_) #[true, true, true, false, false, true, false, true, false, false, false, false, false, false, false, false, false, false, false, false, false, false] rfl rfl (by kernel_rfl) (fun _ _ _ h => h) (Or.inl ⟨by rfl, ?_⟩) hHeld ?_ ?_
      rotate_left
      · rintro w' ⟨s0, s1, s2, s3, s4, s5, s6, s7, s8, s9, s10, s11, s12, s13, s14, s15, s16, s17, s18, s19, s20, s21, s22, s23, s24, s25, s26, s27⟩
        go_simp
        with_reducible rfl
      rotate_left
      · simp only [Act.put, List.setIfInBounds_toArray, List.set_cons_zero, List.set_cons_succ]
        rfl
      refine take_ (i := 6) (N := some 244) (v := ?_) (a' := ?_) #[true, true, true, false, false, true, true, true, false, false, false, false, false, false, false, false, false, false, false, false, false, false] rfl rfl (by kernel_rfl) (fun _ _ _ h => h) (Or.inl ⟨by rfl, ?_⟩) hHeld ?_ ?_
      rotate_left
      · rintro w' ⟨s0, s1, s2, s3, s4, s5, s6, s7, s8, s9, s10, s11, s12, s13, s14, s15, s16, s17, s18, s19, s20, s21, s22, s23, s24, s25, s26, s27⟩
        go_simp
        with_reducible rfl
      rotate_left
      · simp only [Act.put, List.setIfInBounds_toArray, List.set_cons_zero, List.set_cons_succ]
        rfl
      refine pure_ (i := 3) (N := some 241) (v := ?_) (a' := ?_) #[true, true, true, true, false, true, true, true, false, false, false, false, false, false, false, false, false, false, false, false, false, false] rfl rfl (by kernel_rfl) (fun _ _ _ h => h) (Or.inl ⟨by rfl, ?_⟩) ?_ ?_
      rotate_left
      · intro w'
        go_simp
        with_reducible rfl
      rotate_left
      · simp only [Act.put, List.setIfInBounds_toArray, List.set_cons_zero, List.set_cons_succ]
        rfl
      refine pure_ (i := 8) (N := some 246) (v := ?_) (a' := ?_) #[true, true, true, true, false, true, true, true, true, false, false, false, false, false, false, false, false, false, false, false, false, false] rfl rfl (by kernel_rfl) (fun _ _ _ h => h) (Or.inl ⟨by rfl, ?_⟩) ?_ ?_
      rotate_left
      · intro w'
        go_simp
        with_reducible rfl
      rotate_left
      · simp only [Act.put, List.setIfInBounds_toArray, List.set_cons_zero, List.set_cons_succ]
        rfl
      refine take_ (i := 4) (N := some 242) (v := ?_) (a' := ?_) #[true, true, true, true, true, true, true, true, true, false, false, false, false, false, false, false, false, false, false, false, false, false] rfl rfl (by kernel_rfl) (fun _ _ _ h => h) (Or.inl ⟨by rfl, ?_⟩) hHeld ?_ ?_
      rotate_left
      · rintro w' ⟨s0, s1, s2, s3, s4, s5, s6, s7, s8, s9, s10, s11, s12, s13, s14, s15, s16, s17, s18, s19, s20, s21, s22, s23, s24, s25, s26, s27⟩
        go_simp
        with_reducible rfl
      rotate_left
      · simp only [Act.put, List.setIfInBounds_toArray, List.set_cons_zero, List.set_cons_succ]
        rfl
      refine take_ (i := 9) (N := some 247) (v := ?_) (a' := ?_) #[true, true, true, true, true, true, true, true, true, true, false, false, false, false, false, false, false, false, false, false, false, false] rfl rfl (by kernel_rfl) (fun _ _ _ h => h) (Or.inl ⟨by rfl, ?_⟩) hHeld ?_ ?_
      rotate_left
      · rintro w' ⟨s0, s1, s2, s3, s4, s5, s6, s7, s8, s9, s10, s11, s12, s13, s14, s15, s16, s17, s18, s19, s20, s21, s22, s23, s24, s25, s26, s27⟩
        go_simp
        with_reducible rfl
      rotate_left
      · simp only [Act.put, List.setIfInBounds_toArray, List.set_cons_zero, List.set_cons_succ]
        rfl
      refine pure_ (i := 11) (N := some 249) (v := ?_) (a' := ?_) #[true, true, true, true, true, true, true, true, true, true, false, true, false, false, false, false, false, false, false, false, false, false] rfl rfl (by kernel_rfl) (fun _ _ _ h => h) (Or.inl ⟨by rfl, ?_⟩) ?_ ?_
      rotate_left
      · intro w'
        go_simp
        with_reducible rfl
      rotate_left
      · simp only [Act.put, List.setIfInBounds_toArray, List.set_cons_zero, List.set_cons_succ]
        rfl
      refine pure_ (i := 12) (N := some 250) (v := ?_) (a' := ?_) #[true, true, true, true, true, true, true, true, true, true, false, true, true, false, false, false, false, false, false, false, false, false] rfl rfl (by kernel_rfl) (fun _ _ _ h => h) (Or.inl ⟨by rfl, ?_⟩) ?_ ?_
      rotate_left
      · intro w'
        go_simp
        with_reducible rfl
      rotate_left
      · simp only [Act.put, List.setIfInBounds_toArray, List.set_cons_zero, List.set_cons_succ]
        rfl
      refine pure_ (i := 13) (N := some 251) (v := ?_) (a' := ?_) #[true, true, true, true, true, true, true, true, true, true, false, true, true, true, false, false, false, false, false, false, false, false] rfl rfl (by kernel_rfl) (fun _ _ _ h => h) (Or.inl ⟨by rfl, ?_⟩) ?_ ?_
      rotate_left
      · intro w'
        go_simp
        with_reducible rfl
      rotate_left
      · simp only [Act.put, List.setIfInBounds_toArray, List.set_cons_zero, List.set_cons_succ]
        rfl
      refine one_ (i := 10) (N := some 248) #[true, true, true, true, true, true, true, true, true, true, true, true, true, true, false, false, false, false, false, false, false, false] rfl rfl (by kernel_rfl) (by decide) (fun K hK => ?_)
      refine goes_ Tryd.func15 (by kernel_rfl) rfl #[.agg #[.string x.f0, .int .u64 x.f1, .int .u64 x.f2, .int .u64 x.f3, .int .u64 x.f4, .int .u64 x.f5, .int .u64 x.f6, .int .u64 x.f7, .int .u64 x.f8, .string x.f9, .slice A0 x.f10.length a0, .slice A1 x.f11.length a1, .slice A2 x.f12.length a2], .agg #[.string y.f0, .int .u64 y.f1, .int .u64 y.f2, .int .u64 y.f3, .int .u64 y.f4, .int .u64 y.f5, .int .u64 y.f6, .int .u64 y.f7, .int .u64 y.f8, .string y.f9, .slice Q0 y.f10.length b0, .slice Q1 y.f11.length b1, .slice Q2 y.f12.length b2]] (by rfl) rfl rfl (by first | rfl | (simp only [List.map_toArray, List.map_cons, List.map_nil]; rfl)) ?_
      refine (HG.out wd HVd.out).mono ?_
      rintro e w1 ⟨rfl, hb1⟩
      refine ⟨_, rfl, ?_⟩
      have HV4 := Lib.hid (HVd.out.trans (hb1.mono HVd.out.size))
      refine hK.out _ _ ⟨blk_cell (blk_below HAd.out hb1) 10, blk_cell (blk_below HBd.out hb1) 10, (hb1.cell (World.block_lt_of_cell? wd _ p0)).trans p0, (hb1.cell (World.block_lt_of_cell? wd _ p1)).trans p1, (hb1.cell (World.block_lt_of_cell? wd _ p2)).trans p2, (hb1.cell (World.block_lt_of_cell? wd _ p3)).trans p3, (hb1.cell (World.block_lt_of_cell? wd _ p4)).trans p4, (hb1.cell (World.block_lt_of_cell? wd _ p5)).trans p5, (hb1.cell (World.block_lt_of_cell? wd _ p6)).trans p6, (hb1.cell (World.block_lt_of_cell? wd _ p7)).trans p7, (hb1.cell (World.block_lt_of_cell? wd _ p8)).trans p8, (hb1.cell (World.block_lt_of_cell? wd _ p9)).trans p9, (hb1.cell (World.block_lt_of_cell? wd _ p10)).trans p10, (hb1.cell (World.block_lt_of_cell? wd _ p11)).trans p11, (hb1.cell (World.block_lt_of_cell? wd _ p12)).trans p12, (hb1.cell (World.block_lt_of_cell? wd _ q0)).trans q0, (hb1.cell (World.block_lt_of_cell? wd _ q1)).trans q1, (hb1.cell (World.block_lt_of_cell? wd _ q2)).trans q2, (hb1.cell (World.block_lt_of_cell? wd _ q3)).trans q3, (hb1.cell (World.block_lt_of_cell? wd _ q4)).trans q4, (hb1.cell (World.block_lt_of_cell? wd _ q5)).trans q5, (hb1.cell (World.block_lt_of_cell? wd _ q6)).trans q6, (hb1.cell (World.block_lt_of_cell? wd _ q7)).trans q7, (hb1.cell (World.block_lt_of_cell? wd _ q8)).trans q8, (hb1.cell (World.block_lt_of_cell? wd _ q9)).trans q9, (hb1.cell (World.block_lt_of_cell? wd _ q10)).trans q10, (hb1.cell (World.block_lt_of_cell? wd _ q11)).trans q11, (hb1.cell (World.block_lt_of_cell? wd _ q12)).trans q12⟩ (fun hHeld => ?_)
      clear hK K
      rw [HSEC.out]
      refine norm_ (a' := ?_) ?_ ?_
      rotate_left
      · show Act.put _ (some 248) _ = _
        simp only [Act.put, List.setIfInBounds_toArray, List.set_cons_zero, List.set_cons_succ]
        rfl
      clear p0 q0 o0 n0 p1 q1 o1 n1 p2 q2 o2 n2 p3 q3 o3 n3 p4 q4 o4 n4 p5 q5 o5 n5 p6 q6 o6 n6 p7 q7 o7 n7 p8 q8 o8 n8 p9 q9 o9 n9 p10 q10 o10 n10 p11 q11 o11 n11 p12 q12 o12 n12
      cases d8
      · have hsf : sb = false := HT.out.2 (of_decide_eq_false HD8.out)
        subst hsf
        refine pure_ (i := 14) (N := some 252) (v := ?_) (a' := ?_) #[true, true, true, true, true, true, true, true, true, true, true, true, true, true, true, false, false, false, false, false, false, false] rfl rfl (by kernel_rfl) (fun _ _ _ h => h) (Or.inl ⟨by rfl, ?_⟩) ?_ ?_
        rotate_left
        · intro w'
          go_simp
          with_reducible rfl
        rotate_left
        · simp only [Act.put, List.setIfInBounds_toArray, List.set_cons_zero, List.set_cons_succ]
          rfl
        refine pure_ (i := 15) (N := some 253) (v := undef) (a' := ?_) #[true, true, true, true, true, true, true, true, true, true, true, true, true, true, true, true, false, false, false, false, false, false] rfl rfl (by kernel_rfl) (fun _ _ _ h => h) (Or.inr ⟨by rfl, rfl⟩) ?_ ?_
        rotate_left
        · simp only [Act.put, List.setIfInBounds_toArray, List.set_cons_zero, List.set_cons_succ]
          rfl
        refine pure_ (i := 16) (N := some 254) (v := undef) (a' := ?_) #[true, true, true, true, true, true, true, true, true, true, true, true, true, true, true, true, true, false, false, false, false, false] rfl rfl (by kernel_rfl) (fun _ _ _ h => h) (Or.inr ⟨by rfl, rfl⟩) ?_ ?_
        rotate_left
        · simp only [Act.put, List.setIfInBounds_toArray, List.set_cons_zero, List.set_cons_succ]
          rfl
        refine pure_ (i := 17) (N := some 255) (v := undef) (a' := ?_) #[true, true, true, true, true, true, true, true, true, true, true, true, true, true, true, true, true, true, false, false, false, false] rfl rfl (by kernel_rfl) (fun _ _ _ h => h) (Or.inr ⟨by rfl, rfl⟩) ?_ ?_
        rotate_left
        · simp only [Act.put, List.setIfInBounds_toArray, List.set_cons_zero, List.set_cons_succ]
          rfl
        refine pure_ (i := 18) (N := some 256) (v := ?_) (a' := ?_) #[true, true, true, true, true, true, true, true, true, true, true, true, true, true, true, true, true, true, true, false, false, false] rfl rfl (by kernel_rfl) (fun _ _ _ h => h) (Or.inl ⟨by rfl, ?_⟩) ?_ ?_
        rotate_left
        · intro w'
          go_simp
          with_reducible rfl
        rotate_left
        · simp only [Act.put, List.setIfInBounds_toArray, List.set_cons_zero, List.set_cons_succ]
          rfl
        refine pure_ (i := 19) (N := some 257) (v := ?_) (a' := ?_) #[true, true, true, true, true, true, true, true, true, true, true, true, true, true, true, true, true, true, true, true, false, false] rfl rfl (by kernel_rfl) (fun _ _ _ h => h) (Or.inl ⟨by rfl, ?_⟩) ?_ ?_
        rotate_left
        · intro w'
          go_simp
          with_reducible rfl
        rotate_left
        · simp only [Act.put, List.setIfInBounds_toArray, List.set_cons_zero, List.set_cons_succ]
          rfl
        refine pure_ (i := 20) (N := some 258) (v := ?_) (a' := ?_) #[true, true, true, true, true, true, true, true, true, true, true, true, true, true, true, true, true, true, true, true, true, false] rfl rfl (by kernel_rfl) (fun _ _ _ h => h) (Or.inl ⟨by rfl, ?_⟩) ?_ ?_
        rotate_left
        · intro w'
          go_simp
          with_reducible rfl
        rotate_left
        · simp only [Act.put, List.setIfInBounds_toArray, List.set_cons_zero, List.set_cons_succ]
          rfl
        refine pure_ (i := 21) (N := some 6) (v := ?_) (a' := ?_) #[true, true, true, true, true, true, true, true, true, true, true, true, true, true, true, true, true, true, true, true, true, true] rfl rfl (by kernel_rfl) (fun _ _ _ h => h) (Or.inl ⟨by rfl, ?_⟩) ?_ ?_
        rotate_left
        · intro w'
          go_simp
          with_reducible rfl
        rotate_left
        · simp only [Act.put, List.setIfInBounds_toArray, List.set_cons_zero, List.set_cons_succ]
          rfl
        refine done_ (by kernel_rfl) ?_
        go_wp2
        go_ret
        exact ⟨rfl, (HBA.out.trans (HBL.out.mono HBA.out.size)).trans (HV4.out.mono (Nat.le_trans HBA.out.size HBL.out.size))⟩
      · have h8 : 8 < W.size := of_decide_eq_true HD8.out
        have ht : ((W.extract 0 8).toList == (⟨#[115, 101, 99, 116, 105, 111, 110, 32]⟩ : ByteArray).toList) = sb := HT.out.1 h8
        have ht2 := ht
        rw [Lib.toList_data (⟨#[115, 101, 99, 116, 105, 111, 110, 32]⟩ : ByteArray)] at ht2
        have h8i : (8 : Int) ≤ (W.size : Int) := by omega
        have h8n : 8 ≤ W.size := by omega
        refine pure_ (i := 14) (N := some 252) (v := ?_) (a' := ?_) #[true, true, true, true, true, true, true, true, true, true, true, true, true, true, true, false, false, false, false, false, false, false] rfl rfl (by kernel_rfl) (fun _ _ _ h => h) (Or.inl ⟨by rfl, ?_⟩) ?_ ?_
        rotate_left
        · intro w'
          go_simp
          with_reducible rfl
        rotate_left
        · simp only [Act.put, List.setIfInBounds_toArray, List.set_cons_zero, List.set_cons_succ]
          rfl
        refine pure_ (i := 15) (N := some 253) (v := ?_) (a' := ?_) #[true, true, true, true, true, true, true, true, true, true, true, true, true, true, true, true, false, false, false, false, false, false] rfl rfl (by kernel_rfl) (fun _ _ _ h => h) (Or.inl ⟨by rfl, ?_⟩) ?_ ?_
        rotate_left
        · intro w'
          go_simp
          with_reducible rfl
        rotate_left
        · simp only [Act.put, List.setIfInBounds_toArray, List.set_cons_zero, List.set_cons_succ]
          rfl
        refine pure_ (i := 16) (N := some 254) (v := ?_) (a' := ?_) #[true, true, true, true, true, true, true, true, true, true, true, true, true, true, true, true, true, false, false, false, false, false] rfl rfl (by kernel_rfl) (fun _ _ _ h => h) (Or.inl ⟨by rfl, ?_⟩) ?_ ?_
        rotate_left
        · intro w'
          go_simp
          with_reducible rfl
        rotate_left
        · simp only [Act.put, List.setIfInBounds_toArray, List.set_cons_zero, List.set_cons_succ]
          rfl
        refine pure_ (i := 17) (N := some 255) (v := ?_) (a' := ?_) #[true, true, true, true, true, true, true, true, true, true, true, true, true, true, true, true, true, true, false, false, false, false] rfl rfl (by kernel_rfl) (fun _ _ _ h => h) (Or.inl ⟨by rfl, ?_⟩) ?_ ?_
        rotate_left
        · intro w'
          go_simp
          with_reducible rfl
        rotate_left
        · simp only [Act.put, List.setIfInBounds_toArray, List.set_cons_zero, List.set_cons_succ]
          rfl
        refine pure_ (i := 18) (N := some 256) (v := ?_) (a' := ?_) #[true, true, true, true, true, true, true, true, true, true, true, true, true, true, true, true, true, true, true, false, false, false] rfl rfl (by kernel_rfl) (fun _ _ _ h => h) (Or.inl ⟨by rfl, ?_⟩) ?_ ?_
        rotate_left
        · intro w'
          go_simp
          with_reducible rfl
        rotate_left
        · simp only [Act.put, List.setIfInBounds_toArray, List.set_cons_zero, List.set_cons_succ]
          rfl
        refine pure_ (i := 19) (N := some 257) (v := ?_) (a' := ?_) #[true, true, true, true, true, true, true, true, true, true, true, true, true, true, true, true, true, true, true, true, false, false] rfl rfl (by kernel_rfl) (fun _ _ _ h => h) (Or.inl ⟨by rfl, ?_⟩) ?_ ?_
        rotate_left
        · intro w'
          go_simp
          with_reducible rfl
        rotate_left
        · simp only [Act.put, List.setIfInBounds_toArray, List.set_cons_zero, List.set_cons_succ]
          rfl
        refine pure_ (i := 20) (N := some 258) (v := ?_) (a' := ?_) #[true, true, true, true, true, true, true, true, true, true, true, true, true, true, true, true, true, true, true, true, true, false] rfl rfl (by kernel_rfl) (fun _ _ _ h => h) (Or.inl ⟨by rfl, ?_⟩) ?_ ?_
        rotate_left
        · intro w'
          go_simp
          with_reducible rfl
        rotate_left
        · simp only [Act.put, List.setIfInBounds_toArray, List.set_cons_zero, List.set_cons_succ]
          rfl
        refine pure_ (i := 21) (N := some 6) (v := ?_) (a' := ?_) #[true, true, true, true, true, true, true, true, true, true, true, true, true, true, true, true, true, true, true, true, true, true] rfl rfl (by kernel_rfl) (fun _ _ _ h => h) (Or.inl ⟨by rfl, ?_⟩) ?_ ?_
        rotate_left
        · intro w'
          go_simp
          with_reducible rfl
        rotate_left
        · simp only [Act.put, List.setIfInBounds_toArray, List.set_cons_zero, List.set_cons_succ]
          rfl
        refine done_ (by kernel_rfl) ?_
        go_wp2
        go_ret
        exact ⟨rfl, (HBA.out.trans (HBL.out.mono HBA.out.size)).trans (HV4.out.mono (Nat.le_trans HBA.out.size HBL.out.size))⟩
end Go.Proofs.YthphhogljniofaaDoor

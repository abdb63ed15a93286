-- PRINTED by print.py (a twelfth state) out of the translation. Not trusted: Lean checks it.
import Derived.Test.YtkbamfiokhmpjaaGreatDoorXKdx0
namespace Go.Proofs.YtkbamfiokhmpjaaGreatDoorX.Kd
open Go.RowKit Go.Proofs.YtkbamfiokhmpjaaGreatDoorW.PrintWords Go.Proofs.YtkbamfiokhmpjaaGreatDoorW.PrintLast Go.Proofs.YtkbamfiokhmpjaaGreatDoorW.PrintMore
attribute [local go_sem] max2_int min2_int max_two min_two max_three min_three max_four min_four   -- for this text's walks alone
set_option linter.unusedVariables false
set_option linter.unusedSimpArgs false

/-! ### symrec_Symbol_Bind: function 28 -/
def symrec_Symbol_Bind.f (a0_0 : Int) (a0_1 : Int) (a0_2 : Int) (a0_3 : Int) (a0_4 : Int) (a0_5 : Int) : Option (Int) := some (Go.bits .and .u64 (a0_1 / 16) 15)
set_option maxHeartbeats 8000000 in
set_option maxRecDepth 100000 in
theorem symrec_Symbol_Bind.calls (a0_0 : Int) (a0_1 : Int) (a0_2 : Int) (a0_3 : Int) (a0_4 : Int) (a0_5 : Int) (r : Int) (w : World) (h : symrec_Symbol_Bind.f a0_0 a0_1 a0_2 a0_3 a0_4 a0_5 = some r) :
    Calls Tryz.prog 28 #[.agg #[.int .u64 a0_0, .int .u64 a0_1, .int .u64 a0_2, .int .u64 a0_3, .int .u64 a0_4, .int .u64 a0_5]] w fun e w' => e = .returned (.int .u64 r) ∧ Below w.heap.size w w' := by
  have hu106 := Tryz.underlying106
  have HB := Aside0.mk (Below.refl w.heap.size w)
  have H : (some (Go.bits .and .u64 (a0_1 / 16) 15)) = some r := h
  clear h
  obtain rfl := Option.some.inj H
  go_enter Tryz.func28, Tryz.ntmps28
  go_wp2_with (first | ((with_reducible refine gate_dst (N := 1) rfl ?_); refine box_event ?hg (N := 1) ?hd (cs := #[.int .u64 a0_0, .int .u64 a0_1, .int .u64 a0_2, .int .u64 a0_3, .int .u64 a0_4, .int .u64 a0_5]) (t := 106) ?hr ?_; (case hd => rfl); (case hg => rfl); (case hr => first | (go_simp; done) | (go_simp; rfl)); intro gb253 hg w2 hbox hb; have n0_ := Aside0.mk (below_step (by repeat (first | (with_reducible first | exact HB.out | apply below_alloc | apply pw_below_drewN | apply below_drew1) | exact HB.out)) hb); have n1_ := Aside0.mk (hbox); have n2_ := Aside0.mk ((by rw [hg]; exact (below_size (by repeat (first | (with_reducible first | exact HB.out | apply below_alloc | apply pw_below_drewN | apply below_drew1) | exact HB.out))) : w.heap.size ≤ gb253)); have n3_ := Aside0.mk ((by rw [hg]; exact (below_size (by repeat (first | (with_reducible first | exact HB.out | apply below_alloc | apply pw_below_drewN | apply below_drew1) | exact HB.out))) : w.heap.size ≤ gb253)); clear HB; have HB := n0_; have BK253 := n1_; have GW253 := n2_; have GE253 := n3_; clear n0_ n1_ n2_ n3_; clear hb hbox hg; have hcz3_0 : w2.cell? ⟨gb253, 0, none⟩ = some (.int .u64 a0_0) := (blk_cell BK253.out 0).trans rfl; have hcz3_1 : w2.cell? ⟨gb253, 1, none⟩ = some (.int .u64 a0_1) := (blk_cell BK253.out 1).trans rfl; have hcz3_2 : w2.cell? ⟨gb253, 2, none⟩ = some (.int .u64 a0_2) := (blk_cell BK253.out 2).trans rfl; have hcz3_3 : w2.cell? ⟨gb253, 3, none⟩ = some (.int .u64 a0_3) := (blk_cell BK253.out 3).trans rfl; have hcz3_4 : w2.cell? ⟨gb253, 4, none⟩ = some (.int .u64 a0_4) := (blk_cell BK253.out 4).trans rfl; have hcz3_5 : w2.cell? ⟨gb253, 5, none⟩ = some (.int .u64 a0_5) := (blk_cell BK253.out 5).trans rfl; have hfz3_0 := blk_frozen BK253.out 0; have hfz3_1 := blk_frozen BK253.out 1; have hfz3_2 := blk_frozen BK253.out 2; have hfz3_3 := blk_frozen BK253.out 3; have hfz3_4 := blk_frozen BK253.out 4; have hfz3_5 := blk_frozen BK253.out 5))
  go_ret
  exact ⟨by first | rfl | (simp [errW_none, errW_some] <;> rfl) | (simp [*, errW_none, errW_some] <;> rfl), by repeat (first | (with_reducible first | exact HB.out | apply below_alloc | apply pw_below_drewN | apply below_drew1 | refine below_set ?_ GE253.out) | exact HB.out)⟩

/-! ### nm_bind: function 16 -/
def nm_bind.f (a0_0 : ByteArray) (a0_1 : Int) (a0_2 : Int) (a0_3 : Int) (a0_4 : Int) (a0_5 : Int) (a0_6 : Bool) : Option (Int) := (symrec_Symbol_Bind.f 0 a0_1 0 0 0 0).bind fun t255 => (some t255)
set_option maxHeartbeats 8000000 in
set_option maxRecDepth 100000 in
theorem nm_bind.calls (a0_0 : ByteArray) (a0_1 : Int) (a0_2 : Int) (a0_3 : Int) (a0_4 : Int) (a0_5 : Int) (a0_6 : Bool) (r : Int) (w : World) (h : nm_bind.f a0_0 a0_1 a0_2 a0_3 a0_4 a0_5 a0_6 = some r) :
    Calls Tryz.prog 16 #[.agg #[.string a0_0, .int .u64 a0_1, .int .u64 a0_2, .int .u64 a0_3, .int .u64 a0_4, .int .u64 a0_5, .bool a0_6]] w fun e w' => e = .returned (.int .u64 r) ∧ Below w.heap.size w w' := by
  have hu81 := Tryz.underlying81
  have hu106 := Tryz.underlying106
  have HB := Aside0.mk (Below.refl w.heap.size w)
  have H : ((symrec_Symbol_Bind.f 0 a0_1 0 0 0 0).bind fun t255 => (some t255)) = some r := h
  clear h
  replace H := Option.bind_eq_some_iff.mp H
  obtain ⟨t255, A20, H⟩ := H
  replace H : (some t255) = some r := H
  have A2 := Aside0.mk A20
  clear A20
  obtain rfl := Option.some.inj H
  go_enter Tryz.func16, Tryz.ntmps16
  go_wp2_with (first | ((with_reducible refine gate_dst (N := 1) rfl ?_); refine box_event ?hg (N := 1) ?hd (cs := #[.string a0_0, .int .u64 a0_1, .int .u64 a0_2, .int .u64 a0_3, .int .u64 a0_4, .int .u64 a0_5, .bool a0_6]) (t := 81) ?hr ?_; (case hd => rfl); (case hg => rfl); (case hr => first | (go_simp; done) | (go_simp; rfl)); intro gb254 hg w3 hbox hb; have n0_ := Aside0.mk (below_step (by repeat (first | (with_reducible first | exact HB.out | apply below_alloc | apply pw_below_drewN | apply below_drew1) | exact HB.out)) hb); have n1_ := Aside0.mk (hbox); have n2_ := Aside0.mk ((by rw [hg]; exact (below_size (by repeat (first | (with_reducible first | exact HB.out | apply below_alloc | apply pw_below_drewN | apply below_drew1) | exact HB.out))) : w.heap.size ≤ gb254)); have n3_ := Aside0.mk ((by rw [hg]; exact (below_size (by repeat (first | (with_reducible first | exact HB.out | apply below_alloc | apply pw_below_drewN | apply below_drew1) | exact HB.out))) : w.heap.size ≤ gb254)); clear HB; have HB := n0_; have BK254 := n1_; have GW254 := n2_; have GE254 := n3_; clear n0_ n1_ n2_ n3_; clear hb hbox hg; have hcz4_0 : w3.cell? ⟨gb254, 0, none⟩ = some (.string a0_0) := (blk_cell BK254.out 0).trans rfl; have hcz4_1 : w3.cell? ⟨gb254, 1, none⟩ = some (.int .u64 a0_1) := (blk_cell BK254.out 1).trans rfl; have hcz4_2 : w3.cell? ⟨gb254, 2, none⟩ = some (.int .u64 a0_2) := (blk_cell BK254.out 2).trans rfl; have hcz4_3 : w3.cell? ⟨gb254, 3, none⟩ = some (.int .u64 a0_3) := (blk_cell BK254.out 3).trans rfl; have hcz4_4 : w3.cell? ⟨gb254, 4, none⟩ = some (.int .u64 a0_4) := (blk_cell BK254.out 4).trans rfl; have hcz4_5 : w3.cell? ⟨gb254, 5, none⟩ = some (.int .u64 a0_5) := (blk_cell BK254.out 5).trans rfl; have hcz4_6 : w3.cell? ⟨gb254, 6, none⟩ = some (.bool a0_6) := (blk_cell BK254.out 6).trans rfl; have hfz4_0 := blk_frozen BK254.out 0; have hfz4_1 := blk_frozen BK254.out 1; have hfz4_2 := blk_frozen BK254.out 2; have hfz4_3 := blk_frozen BK254.out 3; have hfz4_4 := blk_frozen BK254.out 4; have hfz4_5 := blk_frozen BK254.out 5; have hfz4_6 := blk_frozen BK254.out 6) | ((with_reducible refine gate_callee (f := 28) rfl ?_); refine goesL_ (some 6) rfl rfl Tryz.func28 (by kernel_rfl) rfl #[.agg #[.int .u64 0, .int .u64 a0_1, .int .u64 0, .int .u64 0, .int .u64 0, .int .u64 0]] rfl (by (try simp only [List.map_toArray, List.map_cons, List.map_nil]); first | done | rfl | (simp only [List.length_drop, List.length_take]; rfl)) ?_; (with_reducible refine (symrec_Symbol_Bind.calls 0 a0_1 0 0 0 0 t255 _ A2.out).mono ?_); rintro e w5 ⟨rfl, hb⟩; refine ⟨_, rfl, ?_⟩; have n0_ := Aside0.mk (blk_below (g := gb254) (o := .cells #[.string a0_0, .int .u64 a0_1, .int .u64 a0_2, .int .u64 a0_3, .int .u64 a0_4, .int .u64 a0_5, .bool a0_6] 81 (0, 0)) (by (with_reducible repeat (first | refine blk_drewN ?_ _ | refine blk_drew ?_ | refine blk_alloc ?_ _)); exact BK254.out) hb); have n1_ := Aside0.mk (below_step (by repeat (first | (with_reducible first | exact HB.out | apply below_alloc | apply pw_below_drewN | apply below_drew1 | refine below_set ?_ GE254.out) | exact HB.out)) hb); clear BK254; clear HB; have BK254 := n0_; have HB := n1_; clear n0_ n1_; (try clear hb); (try clear hb2); (try clear hk); (try clear hi)))
  go_ret
  exact ⟨by first | rfl | (simp [errW_none, errW_some] <;> rfl) | (simp [*, errW_none, errW_some] <;> rfl), by repeat (first | (with_reducible first | exact HB.out | apply below_alloc | apply pw_below_drewN | apply below_drew1 | refine below_set ?_ GE254.out) | exact HB.out)⟩

/-! ### nm_inSection: function 70 -/
def nm_inSection.f (a0_0 : ByteArray) (a0_1 : Int) (a0_2 : Int) (a0_3 : Int) (a0_4 : Int) (a0_5 : Int) (a0_6 : Int) (a0_7 : Int) (a0_8 : Int) (a0_9 : ByteArray) (l0_10 : List (S81)) (l0_11 : List (S82)) (l0_12 : List Int) : Option (ByteArray) := if (Go.bits .and .u64 a0_2 2) = 0 then (some (⟨#[78]⟩ : ByteArray)) else (if a0_1 = 8 then (some (⟨#[66]⟩ : ByteArray)) else (if (Go.bits .and .u64 a0_2 4) = 0 then (if (Go.bits .and .u64 a0_2 1) = 0 then (some (⟨#[82]⟩ : ByteArray)) else (some (⟨#[68]⟩ : ByteArray))) else (some (⟨#[84]⟩ : ByteArray))))
set_option maxHeartbeats 8000000 in
set_option maxRecDepth 100000 in
theorem nm_inSection.calls (a0_0 : ByteArray) (a0_1 : Int) (a0_2 : Int) (a0_3 : Int) (a0_4 : Int) (a0_5 : Int) (a0_6 : Int) (a0_7 : Int) (a0_8 : Int) (a0_9 : ByteArray) (A0_10 : Option Addr) (c0_10 : Nat) (l0_10 : List (S81)) (A0_11 : Option Addr) (c0_11 : Nat) (l0_11 : List (S82)) (A0_12 : Option Addr) (c0_12 : Nat) (l0_12 : List Int) (r : ByteArray) (w : World) (hr0_10 : Kd.C k81 w A0_10 l0_10.length l0_10) (hc0_10 : l0_10.length ≤ c0_10) (hr0_11 : Kd.C k82 w A0_11 l0_11.length l0_11) (hc0_11 : l0_11.length ≤ c0_11) (hr0_12 : Kd.C (Kd.int .u64) w A0_12 l0_12.length l0_12) (hc0_12 : l0_12.length ≤ c0_12) (h : nm_inSection.f a0_0 a0_1 a0_2 a0_3 a0_4 a0_5 a0_6 a0_7 a0_8 a0_9 l0_10 l0_11 l0_12 = some r) :
    Calls Tryz.prog 70 #[.agg #[.string a0_0, .int .u64 a0_1, .int .u64 a0_2, .int .u64 a0_3, .int .u64 a0_4, .int .u64 a0_5, .int .u64 a0_6, .int .u64 a0_7, .int .u64 a0_8, .string a0_9, .slice A0_10 l0_10.length c0_10, .slice A0_11 l0_11.length c0_11, .slice A0_12 l0_12.length c0_12]] w fun e w' => e = .returned (.string r) ∧ Below w.heap.size w w' := by
  have hu80 := Tryz.underlying80
  have HR0_10 := Aside0.mk hr0_10
  have HC0_10 := Aside0.mk hc0_10
  clear hr0_10 hc0_10
  have HR0_11 := Aside0.mk hr0_11
  have HC0_11 := Aside0.mk hc0_11
  clear hr0_11 hc0_11
  have HR0_12 := Aside0.mk hr0_12
  have HC0_12 := Aside0.mk hc0_12
  clear hr0_12 hc0_12
  have HB := Aside0.mk (Below.refl w.heap.size w)
  have H : (if (Go.bits .and .u64 a0_2 2) = 0 then (some (⟨#[78]⟩ : ByteArray)) else (if a0_1 = 8 then (some (⟨#[66]⟩ : ByteArray)) else (if (Go.bits .and .u64 a0_2 4) = 0 then (if (Go.bits .and .u64 a0_2 1) = 0 then (some (⟨#[82]⟩ : ByteArray)) else (some (⟨#[68]⟩ : ByteArray))) else (some (⟨#[84]⟩ : ByteArray))))) = some r := h
  clear h
  by_cases c2 : (Go.bits .and .u64 a0_2 2) = 0
  · rw [if_pos c2] at H
    have c2b0 : ((Go.bits .and .u64 a0_2 2) == 0) = true := beq_iff_eq.mpr c2
    have c2b1 : ((Go.bits .and .u64 a0_2 2) != 0) = false := bne_eq_false_iff_eq.mpr c2
    clear c2
    obtain rfl := Option.some.inj H
    go_enter Tryz.func70, Tryz.ntmps70
    go_wp2_with (first | ((with_reducible refine gate_dst (N := 1) rfl ?_); refine box_event ?hg (N := 1) ?hd (cs := #[.string a0_0, .int .u64 a0_1, .int .u64 a0_2, .int .u64 a0_3, .int .u64 a0_4, .int .u64 a0_5, .int .u64 a0_6, .int .u64 a0_7, .int .u64 a0_8, .string a0_9, .slice A0_10 l0_10.length c0_10, .slice A0_11 l0_11.length c0_11, .slice A0_12 l0_12.length c0_12]) (t := 80) ?hr ?_; (case hd => rfl); (case hg => rfl); (case hr => first | (go_simp; done) | (go_simp; rfl)); intro gb256 hg w3 hbox hb; have n0_ := Aside0.mk (below_step (by repeat (first | (with_reducible first | exact HB.out | apply below_alloc | apply pw_below_drewN | apply below_drew1) | exact HB.out)) hb); have n1_ := Aside0.mk (hbox); have n2_ := Aside0.mk ((by rw [hg]; exact (below_size (by repeat (first | (with_reducible first | exact HB.out | apply below_alloc | apply pw_below_drewN | apply below_drew1) | exact HB.out))) : w.heap.size ≤ gb256)); have n3_ := Aside0.mk ((by rw [hg]; exact (below_size (by repeat (first | (with_reducible first | exact HB.out | apply below_alloc | apply pw_below_drewN | apply below_drew1) | exact HB.out))) : w.heap.size ≤ gb256)); clear HB; have HB := n0_; have BK256 := n1_; have GW256 := n2_; have GE256 := n3_; clear n0_ n1_ n2_ n3_; clear hb hbox hg; have hcz4_0 : w3.cell? ⟨gb256, 0, none⟩ = some (.string a0_0) := (blk_cell BK256.out 0).trans rfl; have hcz4_1 : w3.cell? ⟨gb256, 1, none⟩ = some (.int .u64 a0_1) := (blk_cell BK256.out 1).trans rfl; have hcz4_2 : w3.cell? ⟨gb256, 2, none⟩ = some (.int .u64 a0_2) := (blk_cell BK256.out 2).trans rfl; have hcz4_3 : w3.cell? ⟨gb256, 3, none⟩ = some (.int .u64 a0_3) := (blk_cell BK256.out 3).trans rfl; have hcz4_4 : w3.cell? ⟨gb256, 4, none⟩ = some (.int .u64 a0_4) := (blk_cell BK256.out 4).trans rfl; have hcz4_5 : w3.cell? ⟨gb256, 5, none⟩ = some (.int .u64 a0_5) := (blk_cell BK256.out 5).trans rfl; have hcz4_6 : w3.cell? ⟨gb256, 6, none⟩ = some (.int .u64 a0_6) := (blk_cell BK256.out 6).trans rfl; have hcz4_7 : w3.cell? ⟨gb256, 7, none⟩ = some (.int .u64 a0_7) := (blk_cell BK256.out 7).trans rfl; have hcz4_8 : w3.cell? ⟨gb256, 8, none⟩ = some (.int .u64 a0_8) := (blk_cell BK256.out 8).trans rfl; have hcz4_9 : w3.cell? ⟨gb256, 9, none⟩ = some (.string a0_9) := (blk_cell BK256.out 9).trans rfl; have hcz4_10 : w3.cell? ⟨gb256, 10, none⟩ = some (.slice A0_10 l0_10.length c0_10) := (blk_cell BK256.out 10).trans rfl; have hcz4_11 : w3.cell? ⟨gb256, 11, none⟩ = some (.slice A0_11 l0_11.length c0_11) := (blk_cell BK256.out 11).trans rfl; have hcz4_12 : w3.cell? ⟨gb256, 12, none⟩ = some (.slice A0_12 l0_12.length c0_12) := (blk_cell BK256.out 12).trans rfl; have hfz4_0 := blk_frozen BK256.out 0; have hfz4_1 := blk_frozen BK256.out 1; have hfz4_2 := blk_frozen BK256.out 2; have hfz4_3 := blk_frozen BK256.out 3; have hfz4_4 := blk_frozen BK256.out 4; have hfz4_5 := blk_frozen BK256.out 5; have hfz4_6 := blk_frozen BK256.out 6; have hfz4_7 := blk_frozen BK256.out 7; have hfz4_8 := blk_frozen BK256.out 8; have hfz4_9 := blk_frozen BK256.out 9; have hfz4_10 := blk_frozen BK256.out 10; have hfz4_11 := blk_frozen BK256.out 11; have hfz4_12 := blk_frozen BK256.out 12))
    go_ret
    exact ⟨by first | rfl | (simp [errW_none, errW_some] <;> rfl) | (simp [*, errW_none, errW_some] <;> rfl), by repeat (first | (with_reducible first | exact HB.out | apply below_alloc | apply pw_below_drewN | apply below_drew1 | refine below_set ?_ GE256.out) | exact HB.out)⟩
  · rw [if_neg c2] at H
    have c2b0 : ((Go.bits .and .u64 a0_2 2) == 0) = false := beq_eq_false_iff_ne.mpr c2
    have c2b1 : ((Go.bits .and .u64 a0_2 2) != 0) = true := bne_iff_ne.mpr c2
    by_cases c5 : a0_1 = 8
    · rw [if_pos c5] at H
      have c5b0 : (a0_1 == 8) = true := beq_iff_eq.mpr c5
      have c5b1 : (a0_1 != 8) = false := bne_eq_false_iff_eq.mpr c5
      clear c5
      obtain rfl := Option.some.inj H
      go_enter Tryz.func70, Tryz.ntmps70
      go_wp2_with (first | ((with_reducible refine gate_dst (N := 1) rfl ?_); refine box_event ?hg (N := 1) ?hd (cs := #[.string a0_0, .int .u64 a0_1, .int .u64 a0_2, .int .u64 a0_3, .int .u64 a0_4, .int .u64 a0_5, .int .u64 a0_6, .int .u64 a0_7, .int .u64 a0_8, .string a0_9, .slice A0_10 l0_10.length c0_10, .slice A0_11 l0_11.length c0_11, .slice A0_12 l0_12.length c0_12]) (t := 80) ?hr ?_; (case hd => rfl); (case hg => rfl); (case hr => first | (go_simp; done) | (go_simp; rfl)); intro gb256 hg w6 hbox hb; have n0_ := Aside0.mk (below_step (by repeat (first | (with_reducible first | exact HB.out | apply below_alloc | apply pw_below_drewN | apply below_drew1) | exact HB.out)) hb); have n1_ := Aside0.mk (hbox); have n2_ := Aside0.mk ((by rw [hg]; exact (below_size (by repeat (first | (with_reducible first | exact HB.out | apply below_alloc | apply pw_below_drewN | apply below_drew1) | exact HB.out))) : w.heap.size ≤ gb256)); have n3_ := Aside0.mk ((by rw [hg]; exact (below_size (by repeat (first | (with_reducible first | exact HB.out | apply below_alloc | apply pw_below_drewN | apply below_drew1) | exact HB.out))) : w.heap.size ≤ gb256)); clear HB; have HB := n0_; have BK256 := n1_; have GW256 := n2_; have GE256 := n3_; clear n0_ n1_ n2_ n3_; clear hb hbox hg; have hcz7_0 : w6.cell? ⟨gb256, 0, none⟩ = some (.string a0_0) := (blk_cell BK256.out 0).trans rfl; have hcz7_1 : w6.cell? ⟨gb256, 1, none⟩ = some (.int .u64 a0_1) := (blk_cell BK256.out 1).trans rfl; have hcz7_2 : w6.cell? ⟨gb256, 2, none⟩ = some (.int .u64 a0_2) := (blk_cell BK256.out 2).trans rfl; have hcz7_3 : w6.cell? ⟨gb256, 3, none⟩ = some (.int .u64 a0_3) := (blk_cell BK256.out 3).trans rfl; have hcz7_4 : w6.cell? ⟨gb256, 4, none⟩ = some (.int .u64 a0_4) := (blk_cell BK256.out 4).trans rfl; have hcz7_5 : w6.cell? ⟨gb256, 5, none⟩ = some (.int .u64 a0_5) := (blk_cell BK256.out 5).trans rfl; have hcz7_6 : w6.cell? ⟨gb256, 6, none⟩ = some (.int .u64 a0_6) := (blk_cell BK256.out 6).trans rfl; have hcz7_7 : w6.cell? ⟨gb256, 7, none⟩ = some (.int .u64 a0_7) := (blk_cell BK256.out 7).trans rfl; have hcz7_8 : w6.cell? ⟨gb256, 8, none⟩ = some (.int .u64 a0_8) := (blk_cell BK256.out 8).trans rfl; have hcz7_9 : w6.cell? ⟨gb256, 9, none⟩ = some (.string a0_9) := (blk_cell BK256.out 9).trans rfl; have hcz7_10 : w6.cell? ⟨gb256, 10, none⟩ = some (.slice A0_10 l0_10.length c0_10) := (blk_cell BK256.out 10).trans rfl; have hcz7_11 : w6.cell? ⟨gb256, 11, none⟩ = some (.slice A0_11 l0_11.length c0_11) := (blk_cell BK256.out 11).trans rfl; have hcz7_12 : w6.cell? ⟨gb256, 12, none⟩ = some (.slice A0_12 l0_12.length c0_12) := (blk_cell BK256.out 12).trans rfl; have hfz7_0 := blk_frozen BK256.out 0; have hfz7_1 := blk_frozen BK256.out 1; have hfz7_2 := blk_frozen BK256.out 2; have hfz7_3 := blk_frozen BK256.out 3; have hfz7_4 := blk_frozen BK256.out 4; have hfz7_5 := blk_frozen BK256.out 5; have hfz7_6 := blk_frozen BK256.out 6; have hfz7_7 := blk_frozen BK256.out 7; have hfz7_8 := blk_frozen BK256.out 8; have hfz7_9 := blk_frozen BK256.out 9; have hfz7_10 := blk_frozen BK256.out 10; have hfz7_11 := blk_frozen BK256.out 11; have hfz7_12 := blk_frozen BK256.out 12))
      go_ret
      exact ⟨by first | rfl | (simp [errW_none, errW_some] <;> rfl) | (simp [*, errW_none, errW_some] <;> rfl), by repeat (first | (with_reducible first | exact HB.out | apply below_alloc | apply pw_below_drewN | apply below_drew1 | refine below_set ?_ GE256.out) | exact HB.out)⟩
    · rw [if_neg c5] at H
      have c5b0 : (a0_1 == 8) = false := beq_eq_false_iff_ne.mpr c5
      have c5b1 : (a0_1 != 8) = true := bne_iff_ne.mpr c5
      by_cases c8 : (Go.bits .and .u64 a0_2 4) = 0
      · rw [if_pos c8] at H
        have c8b0 : ((Go.bits .and .u64 a0_2 4) == 0) = true := beq_iff_eq.mpr c8
        have c8b1 : ((Go.bits .and .u64 a0_2 4) != 0) = false := bne_eq_false_iff_eq.mpr c8
        clear c8
        by_cases c9 : (Go.bits .and .u64 a0_2 1) = 0
        · rw [if_pos c9] at H
          have c9b0 : ((Go.bits .and .u64 a0_2 1) == 0) = true := beq_iff_eq.mpr c9
          have c9b1 : ((Go.bits .and .u64 a0_2 1) != 0) = false := bne_eq_false_iff_eq.mpr c9
          clear c9
          obtain rfl := Option.some.inj H
          go_enter Tryz.func70, Tryz.ntmps70
          go_wp2_with (first | ((with_reducible refine gate_dst (N := 1) rfl ?_); refine box_event ?hg (N := 1) ?hd (cs := #[.string a0_0, .int .u64 a0_1, .int .u64 a0_2, .int .u64 a0_3, .int .u64 a0_4, .int .u64 a0_5, .int .u64 a0_6, .int .u64 a0_7, .int .u64 a0_8, .string a0_9, .slice A0_10 l0_10.length c0_10, .slice A0_11 l0_11.length c0_11, .slice A0_12 l0_12.length c0_12]) (t := 80) ?hr ?_; (case hd => rfl); (case hg => rfl); (case hr => first | (go_simp; done) | (go_simp; rfl)); intro gb256 hg w10 hbox hb; have n0_ := Aside0.mk (below_step (by repeat (first | (with_reducible first | exact HB.out | apply below_alloc | apply pw_below_drewN | apply below_drew1) | exact HB.out)) hb); have n1_ := Aside0.mk (hbox); have n2_ := Aside0.mk ((by rw [hg]; exact (below_size (by repeat (first | (with_reducible first | exact HB.out | apply below_alloc | apply pw_below_drewN | apply below_drew1) | exact HB.out))) : w.heap.size ≤ gb256)); have n3_ := Aside0.mk ((by rw [hg]; exact (below_size (by repeat (first | (with_reducible first | exact HB.out | apply below_alloc | apply pw_below_drewN | apply below_drew1) | exact HB.out))) : w.heap.size ≤ gb256)); clear HB; have HB := n0_; have BK256 := n1_; have GW256 := n2_; have GE256 := n3_; clear n0_ n1_ n2_ n3_; clear hb hbox hg; have hcz11_0 : w10.cell? ⟨gb256, 0, none⟩ = some (.string a0_0) := (blk_cell BK256.out 0).trans rfl; have hcz11_1 : w10.cell? ⟨gb256, 1, none⟩ = some (.int .u64 a0_1) := (blk_cell BK256.out 1).trans rfl; have hcz11_2 : w10.cell? ⟨gb256, 2, none⟩ = some (.int .u64 a0_2) := (blk_cell BK256.out 2).trans rfl; have hcz11_3 : w10.cell? ⟨gb256, 3, none⟩ = some (.int .u64 a0_3) := (blk_cell BK256.out 3).trans rfl; have hcz11_4 : w10.cell? ⟨gb256, 4, none⟩ = some (.int .u64 a0_4) := (blk_cell BK256.out 4).trans rfl; have hcz11_5 : w10.cell? ⟨gb256, 5, none⟩ = some (.int .u64 a0_5) := (blk_cell BK256.out 5).trans rfl; have hcz11_6 : w10.cell? ⟨gb256, 6, none⟩ = some (.int .u64 a0_6) := (blk_cell BK256.out 6).trans rfl; have hcz11_7 : w10.cell? ⟨gb256, 7, none⟩ = some (.int .u64 a0_7) := (blk_cell BK256.out 7).trans rfl; have hcz11_8 : w10.cell? ⟨gb256, 8, none⟩ = some (.int .u64 a0_8) := (blk_cell BK256.out 8).trans rfl; have hcz11_9 : w10.cell? ⟨gb256, 9, none⟩ = some (.string a0_9) := (blk_cell BK256.out 9).trans rfl; have hcz11_10 : w10.cell? ⟨gb256, 10, none⟩ = some (.slice A0_10 l0_10.length c0_10) := (blk_cell BK256.out 10).trans rfl; have hcz11_11 : w10.cell? ⟨gb256, 11, none⟩ = some (.slice A0_11 l0_11.length c0_11) := (blk_cell BK256.out 11).trans rfl; have hcz11_12 : w10.cell? ⟨gb256, 12, none⟩ = some (.slice A0_12 l0_12.length c0_12) := (blk_cell BK256.out 12).trans rfl; have hfz11_0 := blk_frozen BK256.out 0; have hfz11_1 := blk_frozen BK256.out 1; have hfz11_2 := blk_frozen BK256.out 2; have hfz11_3 := blk_frozen BK256.out 3; have hfz11_4 := blk_frozen BK256.out 4; have hfz11_5 := blk_frozen BK256.out 5; have hfz11_6 := blk_frozen BK256.out 6; have hfz11_7 := blk_frozen BK256.out 7; have hfz11_8 := blk_frozen BK256.out 8; have hfz11_9 := blk_frozen BK256.out 9; have hfz11_10 := blk_frozen BK256.out 10; have hfz11_11 := blk_frozen BK256.out 11; have hfz11_12 := blk_frozen BK256.out 12))
          go_ret
          exact ⟨by first | rfl | (simp [errW_none, errW_some] <;> rfl) | (simp [*, errW_none, errW_some] <;> rfl), by repeat (first | (with_reducible first | exact HB.out | apply below_alloc | apply pw_below_drewN | apply below_drew1 | refine below_set ?_ GE256.out) | exact HB.out)⟩
        · rw [if_neg c9] at H
          have c9b0 : ((Go.bits .and .u64 a0_2 1) == 0) = false := beq_eq_false_iff_ne.mpr c9
          have c9b1 : ((Go.bits .and .u64 a0_2 1) != 0) = true := bne_iff_ne.mpr c9
          obtain rfl := Option.some.inj H
          go_enter Tryz.func70, Tryz.ntmps70
          go_wp2_with (first | ((with_reducible refine gate_dst (N := 1) rfl ?_); refine box_event ?hg (N := 1) ?hd (cs := #[.string a0_0, .int .u64 a0_1, .int .u64 a0_2, .int .u64 a0_3, .int .u64 a0_4, .int .u64 a0_5, .int .u64 a0_6, .int .u64 a0_7, .int .u64 a0_8, .string a0_9, .slice A0_10 l0_10.length c0_10, .slice A0_11 l0_11.length c0_11, .slice A0_12 l0_12.length c0_12]) (t := 80) ?hr ?_; (case hd => rfl); (case hg => rfl); (case hr => first | (go_simp; done) | (go_simp; rfl)); intro gb256 hg w12 hbox hb; have n0_ := Aside0.mk (below_step (by repeat (first | (with_reducible first | exact HB.out | apply below_alloc | apply pw_below_drewN | apply below_drew1) | exact HB.out)) hb); have n1_ := Aside0.mk (hbox); have n2_ := Aside0.mk ((by rw [hg]; exact (below_size (by repeat (first | (with_reducible first | exact HB.out | apply below_alloc | apply pw_below_drewN | apply below_drew1) | exact HB.out))) : w.heap.size ≤ gb256)); have n3_ := Aside0.mk ((by rw [hg]; exact (below_size (by repeat (first | (with_reducible first | exact HB.out | apply below_alloc | apply pw_below_drewN | apply below_drew1) | exact HB.out))) : w.heap.size ≤ gb256)); clear HB; have HB := n0_; have BK256 := n1_; have GW256 := n2_; have GE256 := n3_; clear n0_ n1_ n2_ n3_; clear hb hbox hg; have hcz13_0 : w12.cell? ⟨gb256, 0, none⟩ = some (.string a0_0) := (blk_cell BK256.out 0).trans rfl; have hcz13_1 : w12.cell? ⟨gb256, 1, none⟩ = some (.int .u64 a0_1) := (blk_cell BK256.out 1).trans rfl; have hcz13_2 : w12.cell? ⟨gb256, 2, none⟩ = some (.int .u64 a0_2) := (blk_cell BK256.out 2).trans rfl; have hcz13_3 : w12.cell? ⟨gb256, 3, none⟩ = some (.int .u64 a0_3) := (blk_cell BK256.out 3).trans rfl; have hcz13_4 : w12.cell? ⟨gb256, 4, none⟩ = some (.int .u64 a0_4) := (blk_cell BK256.out 4).trans rfl; have hcz13_5 : w12.cell? ⟨gb256, 5, none⟩ = some (.int .u64 a0_5) := (blk_cell BK256.out 5).trans rfl; have hcz13_6 : w12.cell? ⟨gb256, 6, none⟩ = some (.int .u64 a0_6) := (blk_cell BK256.out 6).trans rfl; have hcz13_7 : w12.cell? ⟨gb256, 7, none⟩ = some (.int .u64 a0_7) := (blk_cell BK256.out 7).trans rfl; have hcz13_8 : w12.cell? ⟨gb256, 8, none⟩ = some (.int .u64 a0_8) := (blk_cell BK256.out 8).trans rfl; have hcz13_9 : w12.cell? ⟨gb256, 9, none⟩ = some (.string a0_9) := (blk_cell BK256.out 9).trans rfl; have hcz13_10 : w12.cell? ⟨gb256, 10, none⟩ = some (.slice A0_10 l0_10.length c0_10) := (blk_cell BK256.out 10).trans rfl; have hcz13_11 : w12.cell? ⟨gb256, 11, none⟩ = some (.slice A0_11 l0_11.length c0_11) := (blk_cell BK256.out 11).trans rfl; have hcz13_12 : w12.cell? ⟨gb256, 12, none⟩ = some (.slice A0_12 l0_12.length c0_12) := (blk_cell BK256.out 12).trans rfl; have hfz13_0 := blk_frozen BK256.out 0; have hfz13_1 := blk_frozen BK256.out 1; have hfz13_2 := blk_frozen BK256.out 2; have hfz13_3 := blk_frozen BK256.out 3; have hfz13_4 := blk_frozen BK256.out 4; have hfz13_5 := blk_frozen BK256.out 5; have hfz13_6 := blk_frozen BK256.out 6; have hfz13_7 := blk_frozen BK256.out 7; have hfz13_8 := blk_frozen BK256.out 8; have hfz13_9 := blk_frozen BK256.out 9; have hfz13_10 := blk_frozen BK256.out 10; have hfz13_11 := blk_frozen BK256.out 11; have hfz13_12 := blk_frozen BK256.out 12))
          go_ret
          exact ⟨by first | rfl | (simp [errW_none, errW_some] <;> rfl) | (simp [*, errW_none, errW_some] <;> rfl), by repeat (first | (with_reducible first | exact HB.out | apply below_alloc | apply pw_below_drewN | apply below_drew1 | refine below_set ?_ GE256.out) | exact HB.out)⟩
      · rw [if_neg c8] at H
        have c8b0 : ((Go.bits .and .u64 a0_2 4) == 0) = false := beq_eq_false_iff_ne.mpr c8
        have c8b1 : ((Go.bits .and .u64 a0_2 4) != 0) = true := bne_iff_ne.mpr c8
        obtain rfl := Option.some.inj H
        go_enter Tryz.func70, Tryz.ntmps70
        go_wp2_with (first | ((with_reducible refine gate_dst (N := 1) rfl ?_); refine box_event ?hg (N := 1) ?hd (cs := #[.string a0_0, .int .u64 a0_1, .int .u64 a0_2, .int .u64 a0_3, .int .u64 a0_4, .int .u64 a0_5, .int .u64 a0_6, .int .u64 a0_7, .int .u64 a0_8, .string a0_9, .slice A0_10 l0_10.length c0_10, .slice A0_11 l0_11.length c0_11, .slice A0_12 l0_12.length c0_12]) (t := 80) ?hr ?_; (case hd => rfl); (case hg => rfl); (case hr => first | (go_simp; done) | (go_simp; rfl)); intro gb256 hg w14 hbox hb; have n0_ := Aside0.mk (below_step (by repeat (first | (with_reducible first | exact HB.out | apply below_alloc | apply pw_below_drewN | apply below_drew1) | exact HB.out)) hb); have n1_ := Aside0.mk (hbox); have n2_ := Aside0.mk ((by rw [hg]; exact (below_size (by repeat (first | (with_reducible first | exact HB.out | apply below_alloc | apply pw_below_drewN | apply below_drew1) | exact HB.out))) : w.heap.size ≤ gb256)); have n3_ := Aside0.mk ((by rw [hg]; exact (below_size (by repeat (first | (with_reducible first | exact HB.out | apply below_alloc | apply pw_below_drewN | apply below_drew1) | exact HB.out))) : w.heap.size ≤ gb256)); clear HB; have HB := n0_; have BK256 := n1_; have GW256 := n2_; have GE256 := n3_; clear n0_ n1_ n2_ n3_; clear hb hbox hg; have hcz15_0 : w14.cell? ⟨gb256, 0, none⟩ = some (.string a0_0) := (blk_cell BK256.out 0).trans rfl; have hcz15_1 : w14.cell? ⟨gb256, 1, none⟩ = some (.int .u64 a0_1) := (blk_cell BK256.out 1).trans rfl; have hcz15_2 : w14.cell? ⟨gb256, 2, none⟩ = some (.int .u64 a0_2) := (blk_cell BK256.out 2).trans rfl; have hcz15_3 : w14.cell? ⟨gb256, 3, none⟩ = some (.int .u64 a0_3) := (blk_cell BK256.out 3).trans rfl; have hcz15_4 : w14.cell? ⟨gb256, 4, none⟩ = some (.int .u64 a0_4) := (blk_cell BK256.out 4).trans rfl; have hcz15_5 : w14.cell? ⟨gb256, 5, none⟩ = some (.int .u64 a0_5) := (blk_cell BK256.out 5).trans rfl; have hcz15_6 : w14.cell? ⟨gb256, 6, none⟩ = some (.int .u64 a0_6) := (blk_cell BK256.out 6).trans rfl; have hcz15_7 : w14.cell? ⟨gb256, 7, none⟩ = some (.int .u64 a0_7) := (blk_cell BK256.out 7).trans rfl; have hcz15_8 : w14.cell? ⟨gb256, 8, none⟩ = some (.int .u64 a0_8) := (blk_cell BK256.out 8).trans rfl; have hcz15_9 : w14.cell? ⟨gb256, 9, none⟩ = some (.string a0_9) := (blk_cell BK256.out 9).trans rfl; have hcz15_10 : w14.cell? ⟨gb256, 10, none⟩ = some (.slice A0_10 l0_10.length c0_10) := (blk_cell BK256.out 10).trans rfl; have hcz15_11 : w14.cell? ⟨gb256, 11, none⟩ = some (.slice A0_11 l0_11.length c0_11) := (blk_cell BK256.out 11).trans rfl; have hcz15_12 : w14.cell? ⟨gb256, 12, none⟩ = some (.slice A0_12 l0_12.length c0_12) := (blk_cell BK256.out 12).trans rfl; have hfz15_0 := blk_frozen BK256.out 0; have hfz15_1 := blk_frozen BK256.out 1; have hfz15_2 := blk_frozen BK256.out 2; have hfz15_3 := blk_frozen BK256.out 3; have hfz15_4 := blk_frozen BK256.out 4; have hfz15_5 := blk_frozen BK256.out 5; have hfz15_6 := blk_frozen BK256.out 6; have hfz15_7 := blk_frozen BK256.out 7; have hfz15_8 := blk_frozen BK256.out 8; have hfz15_9 := blk_frozen BK256.out 9; have hfz15_10 := blk_frozen BK256.out 10; have hfz15_11 := blk_frozen BK256.out 11; have hfz15_12 := blk_frozen BK256.out 12))
        go_ret
        exact ⟨by first | rfl | (simp [errW_none, errW_some] <;> rfl) | (simp [*, errW_none, errW_some] <;> rfl), by repeat (first | (with_reducible first | exact HB.out | apply below_alloc | apply pw_below_drewN | apply below_drew1 | refine below_set ?_ GE256.out) | exact HB.out)⟩

/-! ### nm_where: function 49 -/
def nm_where.j0 : Nat → Bool → Bool → Bool → Int → Int → ByteArray → Int → Int → Int → Int → Int → List (S80) → List (S83) → ByteArray → Int → Int → Int → Int → Int → Bool → Option (ByteArray)
  | 0, _, _, _, _, _, _, _, _, _, _, _, _, _, _, _, _, _, _, _, _ => none
  | k + 1, x5, x258000, x258001, x258002, x258003, x258004, x258005, x258006, x258007, x258008, x258009, x258010, x258011, x259000, x259001, x259002, x259003, x259004, x259005, x259006 => if x5 = true then (some (⟨#[67]⟩ : ByteArray)) else (if x259006 = true then (some (⟨#[65]⟩ : ByteArray)) else (if x259005 ≥ (IntKind.u64.wrap ((x258010.length : Int))) then (some (⟨#[78]⟩ : ByteArray)) else (if 0 ≤ x259005 then (if x259005 < (x258010.length : Int) then ((nm_inSection.f ((rd_T80 x258010 x259005).f0) ((rd_T80 x258010 x259005).f1) ((rd_T80 x258010 x259005).f2) ((rd_T80 x258010 x259005).f3) ((rd_T80 x258010 x259005).f4) ((rd_T80 x258010 x259005).f5) ((rd_T80 x258010 x259005).f6) ((rd_T80 x258010 x259005).f7) ((rd_T80 x258010 x259005).f8) ((rd_T80 x258010 x259005).f9) ((rd_T80 x258010 x259005).f10) ((rd_T80 x258010 x259005).f11) ((rd_T80 x258010 x259005).f12)).bind fun t260 => (some t260)) else (none)) else (none))))
def nm_where.f (k : Nat) (a0_0 : Bool) (a0_1 : Bool) (a0_2 : Int) (a0_3 : Int) (a0_4 : ByteArray) (a0_5 : Int) (a0_6 : Int) (a0_7 : Int) (a0_8 : Int) (a0_9 : Int) (l0_10 : List (S80)) (l0_11 : List (S83)) (a1_0 : ByteArray) (a1_1 : Int) (a1_2 : Int) (a1_3 : Int) (a1_4 : Int) (a1_5 : Int) (a1_6 : Bool) : Option (ByteArray) := if a1_6 = true then (nm_where.j0 k (a1_5 == 65522) a0_0 a0_1 a0_2 a0_3 a0_4 a0_5 a0_6 a0_7 a0_8 a0_9 l0_10 l0_11 a1_0 a1_1 a1_2 a1_3 a1_4 a1_5 a1_6) else (nm_where.j0 k false a0_0 a0_1 a0_2 a0_3 a0_4 a0_5 a0_6 a0_7 a0_8 a0_9 l0_10 l0_11 a1_0 a1_1 a1_2 a1_3 a1_4 a1_5 a1_6)
theorem nm_where.mono_l : ∀ k, (∀ y0 y1 y2 y3 y4 y5 y6 y7 y8 y9 y10 y11 y12 y13 y14 y15 y16 y17 y18 y19, LeO (nm_where.j0 k y0 y1 y2 y3 y4 y5 y6 y7 y8 y9 y10 y11 y12 y13 y14 y15 y16 y17 y18 y19) (nm_where.j0 (k + 1) y0 y1 y2 y3 y4 y5 y6 y7 y8 y9 y10 y11 y12 y13 y14 y15 y16 y17 y18 y19))
  | 0 => fun _ _ _ _ _ _ _ _ _ _ _ _ _ _ _ _ _ _ _ _ r h => by simp [nm_where.j0] at h
  | k + 1 => by
    have ih0 := nm_where.mono_l k
    · intro y0 y1 y2 y3 y4 y5 y6 y7 y8 y9 y10 y11 y12 y13 y14 y15 y16 y17 y18 y19
      unfold nm_where.j0
      repeat' first
      | (with_reducible exact ih0 _ _ _ _ _ _ _ _ _ _ _ _ _ _ _ _ _ _ _ _)
      | (with_reducible exact LeO.refl _)
      | (with_reducible exact LeO.none _)
      | (with_reducible refine LeO.ite ?_ ?_)
      | (with_reducible refine LeO.bind ?_ (fun _ => ?_))
      | exact ih0 _ _ _ _ _ _ _ _ _ _ _ _ _ _ _ _ _ _ _ _
      | exact LeO.none _
      | refine LeO.ite ?_ ?_
      | refine LeO.bind ?_ (fun _ => ?_)
theorem nm_where.mono : ∀ a0 a1 a2 a3 a4 a5 a6 a7 a8 a9 a10 a11 a12 a13 a14 a15 a16 a17 a18 k, LeO (nm_where.f k a0 a1 a2 a3 a4 a5 a6 a7 a8 a9 a10 a11 a12 a13 a14 a15 a16 a17 a18) (nm_where.f (k + 1) a0 a1 a2 a3 a4 a5 a6 a7 a8 a9 a10 a11 a12 a13 a14 a15 a16 a17 a18) := by
  intro a0 a1 a2 a3 a4 a5 a6 a7 a8 a9 a10 a11 a12 a13 a14 a15 a16 a17 a18 k
  have ih0 := nm_where.mono_l k
  unfold nm_where.f
  repeat' first
      | (with_reducible exact ih0 _ _ _ _ _ _ _ _ _ _ _ _ _ _ _ _ _ _ _ _)
      | (with_reducible exact LeO.refl _)
      | (with_reducible exact LeO.none _)
      | (with_reducible refine LeO.ite ?_ ?_)
      | (with_reducible refine LeO.bind ?_ (fun _ => ?_))
      | exact ih0 _ _ _ _ _ _ _ _ _ _ _ _ _ _ _ _ _ _ _ _
      | exact LeO.none _
      | refine LeO.ite ?_ ?_
      | refine LeO.bind ?_ (fun _ => ?_)
set_option maxHeartbeats 8000000 in
set_option maxRecDepth 100000 in
theorem nm_where.calls (k : Nat) (a0_0 : Bool) (a0_1 : Bool) (a0_2 : Int) (a0_3 : Int) (a0_4 : ByteArray) (a0_5 : Int) (a0_6 : Int) (a0_7 : Int) (a0_8 : Int) (a0_9 : Int) (A0_10 : Option Addr) (c0_10 : Nat) (l0_10 : List (S80)) (A0_11 : Option Addr) (c0_11 : Nat) (l0_11 : List (S83)) (a1_0 : ByteArray) (a1_1 : Int) (a1_2 : Int) (a1_3 : Int) (a1_4 : Int) (a1_5 : Int) (a1_6 : Bool) (r : ByteArray) (w : World) (hr0_10 : Kd.C k80 w A0_10 l0_10.length l0_10) (hc0_10 : l0_10.length ≤ c0_10) (hr0_11 : Kd.C k83 w A0_11 l0_11.length l0_11) (hc0_11 : l0_11.length ≤ c0_11) (h : nm_where.f k a0_0 a0_1 a0_2 a0_3 a0_4 a0_5 a0_6 a0_7 a0_8 a0_9 l0_10 l0_11 a1_0 a1_1 a1_2 a1_3 a1_4 a1_5 a1_6 = some r) :
    Calls Tryz.prog 49 #[.agg #[.bool a0_0, .bool a0_1, .int .u8 a0_2, .int .u8 a0_3, .string a0_4, .int .u64 a0_5, .int .u64 a0_6, .int .u64 a0_7, .int .u64 a0_8, .int .u64 a0_9, .slice A0_10 l0_10.length c0_10, .slice A0_11 l0_11.length c0_11], .agg #[.string a1_0, .int .u64 a1_1, .int .u64 a1_2, .int .u64 a1_3, .int .u64 a1_4, .int .u64 a1_5, .bool a1_6]] w fun e w' => e = .returned (.string r) ∧ Below w.heap.size w w' := by
  have hu48 := Tryz.underlying48
  have hu81 := Tryz.underlying81
  have hu80 := Tryz.underlying80
  have HR0_10 := Aside0.mk hr0_10
  have HC0_10 := Aside0.mk hc0_10
  clear hr0_10 hc0_10
  have HR0_11 := Aside0.mk hr0_11
  have HC0_11 := Aside0.mk hc0_11
  clear hr0_11 hc0_11
  have HB := Aside0.mk (Below.refl w.heap.size w)
  have H : (if a1_6 = true then (nm_where.j0 k (a1_5 == 65522) a0_0 a0_1 a0_2 a0_3 a0_4 a0_5 a0_6 a0_7 a0_8 a0_9 l0_10 l0_11 a1_0 a1_1 a1_2 a1_3 a1_4 a1_5 a1_6) else (nm_where.j0 k false a0_0 a0_1 a0_2 a0_3 a0_4 a0_5 a0_6 a0_7 a0_8 a0_9 l0_10 l0_11 a1_0 a1_1 a1_2 a1_3 a1_4 a1_5 a1_6)) = some r := h
  clear h
  have HC3 := Aside0.mk H
  clear H
  go_enter Tryz.func49, Tryz.ntmps49
  go_upto_region 1 with (first | ((with_reducible refine gate_dst (N := 2) rfl ?_); refine box_event ?hg (N := 2) ?hd (cs := #[.bool a0_0, .bool a0_1, .int .u8 a0_2, .int .u8 a0_3, .string a0_4, .int .u64 a0_5, .int .u64 a0_6, .int .u64 a0_7, .int .u64 a0_8, .int .u64 a0_9, .slice A0_10 l0_10.length c0_10, .slice A0_11 l0_11.length c0_11]) (t := 48) ?hr ?_; (case hd => rfl); (case hg => rfl); (case hr => first | (go_simp; done) | (go_simp; rfl)); intro gb257 hg w4 hbox hb; have n0_ := Aside0.mk (below_step (by repeat (first | (with_reducible first | exact HB.out | apply below_alloc | apply pw_below_drewN | apply below_drew1) | exact HB.out)) hb); have n1_ := Aside0.mk (hbox); have n2_ := Aside0.mk ((by rw [hg]; exact (below_size (by repeat (first | (with_reducible first | exact HB.out | apply below_alloc | apply pw_below_drewN | apply below_drew1) | exact HB.out))) : w.heap.size ≤ gb257)); have n3_ := Aside0.mk ((by rw [hg]; exact (below_size (by repeat (first | (with_reducible first | exact HB.out | apply below_alloc | apply pw_below_drewN | apply below_drew1) | exact HB.out))) : w.heap.size ≤ gb257)); clear HB; have HB := n0_; have BK257 := n1_; have GW257 := n2_; have GE257 := n3_; clear n0_ n1_ n2_ n3_; clear hb hbox hg) | ((with_reducible refine gate_dst (N := 3) rfl ?_); refine box_event ?hg (N := 3) ?hd (cs := #[.string a1_0, .int .u64 a1_1, .int .u64 a1_2, .int .u64 a1_3, .int .u64 a1_4, .int .u64 a1_5, .bool a1_6]) (t := 81) ?hr ?_; (case hd => rfl); (case hg => rfl); (case hr => first | (go_simp; done) | (go_simp; rfl)); intro gb258 hg w5 hbox hb; have n0_ := Aside0.mk (blk_below (g := gb257) (o := .cells #[.bool a0_0, .bool a0_1, .int .u8 a0_2, .int .u8 a0_3, .string a0_4, .int .u64 a0_5, .int .u64 a0_6, .int .u64 a0_7, .int .u64 a0_8, .int .u64 a0_9, .slice A0_10 l0_10.length c0_10, .slice A0_11 l0_11.length c0_11] 48 (0, 0)) (by (with_reducible repeat (first | refine blk_drewN ?_ _ | refine blk_drew ?_ | refine blk_alloc ?_ _)); exact BK257.out) hb); have n1_ := Aside0.mk (below_step (by repeat (first | (with_reducible first | exact HB.out | apply below_alloc | apply pw_below_drewN | apply below_drew1 | refine below_set ?_ GE257.out) | exact HB.out)) hb); have n2_ := Aside0.mk (hbox); have n3_ := Aside0.mk ((by rw [hg]; exact (below_size (by repeat (first | (with_reducible first | exact HB.out | apply below_alloc | apply pw_below_drewN | apply below_drew1 | refine below_set ?_ GE257.out) | exact HB.out))) : w.heap.size ≤ gb258)); have n4_ := Aside0.mk ((by rw [hg]; exact (below_size (by repeat (first | (with_reducible first | exact HB.out | apply below_alloc | apply pw_below_drewN | apply below_drew1 | refine below_set ?_ GE257.out) | exact HB.out))) : w.heap.size ≤ gb258)); have n5_ := Aside0.mk ((by rw [hg]; exact Nat.ne_of_lt (blk_lt (g := gb257) (o := .cells #[.bool a0_0, .bool a0_1, .int .u8 a0_2, .int .u8 a0_3, .string a0_4, .int .u64 a0_5, .int .u64 a0_6, .int .u64 a0_7, .int .u64 a0_8, .int .u64 a0_9, .slice A0_10 l0_10.length c0_10, .slice A0_11 l0_11.length c0_11] 48 (0, 0)) (by (with_reducible repeat (first | refine blk_drewN ?_ _ | refine blk_drew ?_ | refine blk_alloc ?_ _)); exact BK257.out)) : gb257 ≠ gb258)); have n6_ := Aside0.mk ((by rw [hg]; exact Nat.ne_of_gt (blk_lt (g := gb257) (o := .cells #[.bool a0_0, .bool a0_1, .int .u8 a0_2, .int .u8 a0_3, .string a0_4, .int .u64 a0_5, .int .u64 a0_6, .int .u64 a0_7, .int .u64 a0_8, .int .u64 a0_9, .slice A0_10 l0_10.length c0_10, .slice A0_11 l0_11.length c0_11] 48 (0, 0)) (by (with_reducible repeat (first | refine blk_drewN ?_ _ | refine blk_drew ?_ | refine blk_alloc ?_ _)); exact BK257.out)) : gb258 ≠ gb257)); clear BK257; clear HB; have BK257 := n0_; have HB := n1_; have BK258 := n2_; have GW258 := n3_; have GE258 := n4_; have NB257_258 := n5_; have NB258_257 := n6_; clear n0_ n1_ n2_ n3_ n4_ n5_ n6_; clear hb hbox hg))
  (try simp only [Act.put, List.setIfInBounds_toArray, List.set_cons_zero, List.set_cons_succ])
  go_cut [5] (fun v5 wc => ∃ (kq : Nat) (x5_2 : Bool), v5 = .bool x5_2 ∧ Aside0 (nm_where.j0 kq x5_2 a0_0 a0_1 a0_2 a0_3 a0_4 a0_5 a0_6 a0_7 a0_8 a0_9 l0_10 l0_11 a1_0 a1_1 a1_2 a1_3 a1_4 a1_5 a1_6 = some r) ∧ Aside0 (kq ≤ k) ∧ Aside0 (wc.heap[gb257]? = some (.cells #[.bool a0_0, .bool a0_1, .int .u8 a0_2, .int .u8 a0_3, .string a0_4, .int .u64 a0_5, .int .u64 a0_6, .int .u64 a0_7, .int .u64 a0_8, .int .u64 a0_9, (.slice A0_10 l0_10.length c0_10), (.slice A0_11 l0_11.length c0_11)] 48 (0, 0))) ∧ Aside0 (wc.heap[gb258]? = some (.cells #[.string a1_0, .int .u64 a1_1, .int .u64 a1_2, .int .u64 a1_3, .int .u64 a1_4, .int .u64 a1_5, .bool a1_6] 81 (0, 0))) ∧ Aside0 (Below w.heap.size w wc))
  case first =>
    have H := HC3.out
    clear HC3
    by_cases c6 : a1_6 = true
    · subst c6
      have H1 : (nm_where.j0 k (a1_5 == 65522) a0_0 a0_1 a0_2 a0_3 a0_4 a0_5 a0_6 a0_7 a0_8 a0_9 l0_10 l0_11 a1_0 a1_1 a1_2 a1_3 a1_4 a1_5 true) = some r := by rw [if_pos rfl] at H; exact H
      clear H
      have H := H1
      clear H1
      have H' := Aside0.mk H
      clear H
      have hnb7 := NB258_257.out
      have hnc7 := NB257_258.out
      have hcz8_0 : w5.cell? ⟨gb258, 0, none⟩ = some (.string a1_0) := (blk_cell BK258.out 0).trans rfl
      have hcz8_1 : w5.cell? ⟨gb258, 1, none⟩ = some (.int .u64 a1_1) := (blk_cell BK258.out 1).trans rfl
      have hcz8_2 : w5.cell? ⟨gb258, 2, none⟩ = some (.int .u64 a1_2) := (blk_cell BK258.out 2).trans rfl
      have hcz8_3 : w5.cell? ⟨gb258, 3, none⟩ = some (.int .u64 a1_3) := (blk_cell BK258.out 3).trans rfl
      have hcz8_4 : w5.cell? ⟨gb258, 4, none⟩ = some (.int .u64 a1_4) := (blk_cell BK258.out 4).trans rfl
      have hcz8_5 : w5.cell? ⟨gb258, 5, none⟩ = some (.int .u64 a1_5) := (blk_cell BK258.out 5).trans rfl
      have hcz8_6 : w5.cell? ⟨gb258, 6, none⟩ = some (.bool true) := (blk_cell BK258.out 6).trans rfl
      have hfz8_0 := blk_frozen BK258.out 0
      have hfz8_1 := blk_frozen BK258.out 1
      have hfz8_2 := blk_frozen BK258.out 2
      have hfz8_3 := blk_frozen BK258.out 3
      have hfz8_4 := blk_frozen BK258.out 4
      have hfz8_5 := blk_frozen BK258.out 5
      have hfz8_6 := blk_frozen BK258.out 6
      go_wp2
      go_meet
      case rel => exact ⟨_, ((a1_5 == 65522)), (by first | rfl | (simp; done) | (simp [*]; done)), H', ⟨by first | omega | exact Nat.le_refl _⟩, ⟨by (with_reducible repeat (first | refine blk_drewN ?_ _ | refine blk_drew ?_ | refine blk_alloc ?_ _)); exact BK257.out⟩, ⟨by (with_reducible repeat (first | refine blk_drewN ?_ _ | refine blk_drew ?_ | refine blk_alloc ?_ _)); exact BK258.out⟩, ⟨by repeat (first | (with_reducible first | exact HB.out | apply below_alloc | apply pw_below_drewN | apply below_drew1 | refine below_set ?_ GE257.out | refine below_set ?_ GE258.out) | exact HB.out)⟩⟩
    · replace c6 := Bool.eq_false_iff.mpr c6
      subst c6
      have H1 : (nm_where.j0 k false a0_0 a0_1 a0_2 a0_3 a0_4 a0_5 a0_6 a0_7 a0_8 a0_9 l0_10 l0_11 a1_0 a1_1 a1_2 a1_3 a1_4 a1_5 false) = some r := by rw [if_neg (show ¬ (false = true) by decide)] at H; exact H
      clear H
      have H := H1
      clear H1
      have H' := Aside0.mk H
      clear H
      have hnb9 := NB258_257.out
      have hnc9 := NB257_258.out
      have hcz10_0 : w5.cell? ⟨gb258, 0, none⟩ = some (.string a1_0) := (blk_cell BK258.out 0).trans rfl
      have hcz10_1 : w5.cell? ⟨gb258, 1, none⟩ = some (.int .u64 a1_1) := (blk_cell BK258.out 1).trans rfl
      have hcz10_2 : w5.cell? ⟨gb258, 2, none⟩ = some (.int .u64 a1_2) := (blk_cell BK258.out 2).trans rfl
      have hcz10_3 : w5.cell? ⟨gb258, 3, none⟩ = some (.int .u64 a1_3) := (blk_cell BK258.out 3).trans rfl
      have hcz10_4 : w5.cell? ⟨gb258, 4, none⟩ = some (.int .u64 a1_4) := (blk_cell BK258.out 4).trans rfl
      have hcz10_5 : w5.cell? ⟨gb258, 5, none⟩ = some (.int .u64 a1_5) := (blk_cell BK258.out 5).trans rfl
      have hcz10_6 : w5.cell? ⟨gb258, 6, none⟩ = some (.bool false) := (blk_cell BK258.out 6).trans rfl
      have hfz10_0 := blk_frozen BK258.out 0
      have hfz10_1 := blk_frozen BK258.out 1
      have hfz10_2 := blk_frozen BK258.out 2
      have hfz10_3 := blk_frozen BK258.out 3
      have hfz10_4 := blk_frozen BK258.out 4
      have hfz10_5 := blk_frozen BK258.out 5
      have hfz10_6 := blk_frozen BK258.out 6
      go_wp2
      go_meet
      case rel => exact ⟨_, (false), (by first | rfl | (simp; done) | (simp [*]; done)), H', ⟨by first | omega | exact Nat.le_refl _⟩, ⟨by (with_reducible repeat (first | refine blk_drewN ?_ _ | refine blk_drew ?_ | refine blk_alloc ?_ _)); exact BK257.out⟩, ⟨by (with_reducible repeat (first | refine blk_drewN ?_ _ | refine blk_drew ?_ | refine blk_alloc ?_ _)); exact BK258.out⟩, ⟨by repeat (first | (with_reducible first | exact HB.out | apply below_alloc | apply pw_below_drewN | apply below_drew1 | refine below_set ?_ GE257.out | refine below_set ?_ GE258.out) | exact HB.out)⟩⟩
  case rest =>
    clear HC3
    try clear p2
    try clear c4
    try clear c6
    try clear c7
    try clear c9
    try clear hcz10_0
    try clear hcz10_1
    try clear hcz10_2
    try clear hcz10_3
    try clear hcz10_4
    try clear hcz10_5
    try clear hcz10_6
    try clear hcz8_0
    try clear hcz8_1
    try clear hcz8_2
    try clear hcz8_3
    try clear hcz8_4
    try clear hcz8_5
    try clear hcz8_6
    try clear hfz10_0
    try clear hfz10_1
    try clear hfz10_2
    try clear hfz10_3
    try clear hfz10_4
    try clear hfz10_5
    try clear hfz10_6
    try clear hfz8_0
    try clear hfz8_1
    try clear hfz8_2
    try clear hfz8_3
    try clear hfz8_4
    try clear hfz8_5
    try clear hfz8_6
    obtain ⟨kq, x5_2, rfl, HA, HJ2, BK257, BK258, HB⟩ := hcut
    cases kq with
    | zero => exact absurd HA.out (by simp [nm_where.j0])
    | succ kj2 =>
      have H := HA.out
      clear HA
      simp only [nm_where.j0] at H
      by_cases c11 : x5_2 = true
      · subst c11
        have H1 : (some (⟨#[67]⟩ : ByteArray)) = some r := by rw [if_pos rfl] at H; exact H
        clear H
        have H := H1
        clear H1
        obtain rfl := Option.some.inj H
        go_wp2
        go_ret
        exact ⟨by first | rfl | (simp [errW_none, errW_some] <;> rfl) | (simp [*, errW_none, errW_some] <;> rfl), by repeat (first | (with_reducible first | exact HB.out | apply below_alloc | apply pw_below_drewN | apply below_drew1 | refine below_set ?_ GE257.out | refine below_set ?_ GE258.out) | exact HB.out)⟩
      · replace c11 := Bool.eq_false_iff.mpr c11
        subst c11
        have H1 : (if a1_6 = true then (some (⟨#[65]⟩ : ByteArray)) else (if a1_5 ≥ (IntKind.u64.wrap ((l0_10.length : Int))) then (some (⟨#[78]⟩ : ByteArray)) else (if 0 ≤ a1_5 then (if a1_5 < (l0_10.length : Int) then ((nm_inSection.f ((rd_T80 l0_10 a1_5).f0) ((rd_T80 l0_10 a1_5).f1) ((rd_T80 l0_10 a1_5).f2) ((rd_T80 l0_10 a1_5).f3) ((rd_T80 l0_10 a1_5).f4) ((rd_T80 l0_10 a1_5).f5) ((rd_T80 l0_10 a1_5).f6) ((rd_T80 l0_10 a1_5).f7) ((rd_T80 l0_10 a1_5).f8) ((rd_T80 l0_10 a1_5).f9) ((rd_T80 l0_10 a1_5).f10) ((rd_T80 l0_10 a1_5).f11) ((rd_T80 l0_10 a1_5).f12)).bind fun t260 => (some t260)) else (none)) else (none)))) = some r := by rw [if_neg (show ¬ (false = true) by decide)] at H; exact H
        clear H
        have H := H1
        clear H1
        by_cases c12 : a1_6 = true
        · subst c12
          have H1 : (some (⟨#[65]⟩ : ByteArray)) = some r := by rw [if_pos rfl] at H; exact H
          clear H
          have H := H1
          clear H1
          obtain rfl := Option.some.inj H
          have hnb13 := NB258_257.out
          have hnc13 := NB257_258.out
          have hcz14_0 : wc.cell? ⟨gb258, 0, none⟩ = some (.string a1_0) := (blk_cell BK258.out 0).trans rfl
          have hcz14_1 : wc.cell? ⟨gb258, 1, none⟩ = some (.int .u64 a1_1) := (blk_cell BK258.out 1).trans rfl
          have hcz14_2 : wc.cell? ⟨gb258, 2, none⟩ = some (.int .u64 a1_2) := (blk_cell BK258.out 2).trans rfl
          have hcz14_3 : wc.cell? ⟨gb258, 3, none⟩ = some (.int .u64 a1_3) := (blk_cell BK258.out 3).trans rfl
          have hcz14_4 : wc.cell? ⟨gb258, 4, none⟩ = some (.int .u64 a1_4) := (blk_cell BK258.out 4).trans rfl
          have hcz14_5 : wc.cell? ⟨gb258, 5, none⟩ = some (.int .u64 a1_5) := (blk_cell BK258.out 5).trans rfl
          have hcz14_6 : wc.cell? ⟨gb258, 6, none⟩ = some (.bool true) := (blk_cell BK258.out 6).trans rfl
          have hfz14_0 := blk_frozen BK258.out 0
          have hfz14_1 := blk_frozen BK258.out 1
          have hfz14_2 := blk_frozen BK258.out 2
          have hfz14_3 := blk_frozen BK258.out 3
          have hfz14_4 := blk_frozen BK258.out 4
          have hfz14_5 := blk_frozen BK258.out 5
          have hfz14_6 := blk_frozen BK258.out 6
          go_wp2
          go_ret
          exact ⟨by first | rfl | (simp [errW_none, errW_some] <;> rfl) | (simp [*, errW_none, errW_some] <;> rfl), by repeat (first | (with_reducible first | exact HB.out | apply below_alloc | apply pw_below_drewN | apply below_drew1 | refine below_set ?_ GE257.out | refine below_set ?_ GE258.out) | exact HB.out)⟩
        · replace c12 := Bool.eq_false_iff.mpr c12
          subst c12
          have H1 : (if a1_5 ≥ (IntKind.u64.wrap ((l0_10.length : Int))) then (some (⟨#[78]⟩ : ByteArray)) else (if 0 ≤ a1_5 then (if a1_5 < (l0_10.length : Int) then ((nm_inSection.f ((rd_T80 l0_10 a1_5).f0) ((rd_T80 l0_10 a1_5).f1) ((rd_T80 l0_10 a1_5).f2) ((rd_T80 l0_10 a1_5).f3) ((rd_T80 l0_10 a1_5).f4) ((rd_T80 l0_10 a1_5).f5) ((rd_T80 l0_10 a1_5).f6) ((rd_T80 l0_10 a1_5).f7) ((rd_T80 l0_10 a1_5).f8) ((rd_T80 l0_10 a1_5).f9) ((rd_T80 l0_10 a1_5).f10) ((rd_T80 l0_10 a1_5).f11) ((rd_T80 l0_10 a1_5).f12)).bind fun t260 => (some t260)) else (none)) else (none))) = some r := by rw [if_neg (show ¬ (false = true) by decide)] at H; exact H
          clear H
          have H := H1
          clear H1
          by_cases c15 : a1_5 ≥ (IntKind.u64.wrap ((l0_10.length : Int)))
          · rw [if_pos c15] at H
            have c15b0 : decide ((IntKind.u64.wrap ((l0_10.length : Int))) ≤ a1_5) = true := decide_eq_true c15
            clear c15
            obtain rfl := Option.some.inj H
            have hnb16 := NB258_257.out
            have hnc16 := NB257_258.out
            have hcz17_0 : wc.cell? ⟨gb258, 0, none⟩ = some (.string a1_0) := (blk_cell BK258.out 0).trans rfl
            have hcz17_1 : wc.cell? ⟨gb258, 1, none⟩ = some (.int .u64 a1_1) := (blk_cell BK258.out 1).trans rfl
            have hcz17_2 : wc.cell? ⟨gb258, 2, none⟩ = some (.int .u64 a1_2) := (blk_cell BK258.out 2).trans rfl
            have hcz17_3 : wc.cell? ⟨gb258, 3, none⟩ = some (.int .u64 a1_3) := (blk_cell BK258.out 3).trans rfl
            have hcz17_4 : wc.cell? ⟨gb258, 4, none⟩ = some (.int .u64 a1_4) := (blk_cell BK258.out 4).trans rfl
            have hcz17_5 : wc.cell? ⟨gb258, 5, none⟩ = some (.int .u64 a1_5) := (blk_cell BK258.out 5).trans rfl
            have hcz17_6 : wc.cell? ⟨gb258, 6, none⟩ = some (.bool false) := (blk_cell BK258.out 6).trans rfl
            have hfz17_0 := blk_frozen BK258.out 0
            have hfz17_1 := blk_frozen BK258.out 1
            have hfz17_2 := blk_frozen BK258.out 2
            have hfz17_3 := blk_frozen BK258.out 3
            have hfz17_4 := blk_frozen BK258.out 4
            have hfz17_5 := blk_frozen BK258.out 5
            have hfz17_6 := blk_frozen BK258.out 6
            have hcz18_0 : wc.cell? ⟨gb257, 0, none⟩ = some (.bool a0_0) := (blk_cell BK257.out 0).trans rfl
            have hcz18_1 : wc.cell? ⟨gb257, 1, none⟩ = some (.bool a0_1) := (blk_cell BK257.out 1).trans rfl
            have hcz18_2 : wc.cell? ⟨gb257, 2, none⟩ = some (.int .u8 a0_2) := (blk_cell BK257.out 2).trans rfl
            have hcz18_3 : wc.cell? ⟨gb257, 3, none⟩ = some (.int .u8 a0_3) := (blk_cell BK257.out 3).trans rfl
            have hcz18_4 : wc.cell? ⟨gb257, 4, none⟩ = some (.string a0_4) := (blk_cell BK257.out 4).trans rfl
            have hcz18_5 : wc.cell? ⟨gb257, 5, none⟩ = some (.int .u64 a0_5) := (blk_cell BK257.out 5).trans rfl
            have hcz18_6 : wc.cell? ⟨gb257, 6, none⟩ = some (.int .u64 a0_6) := (blk_cell BK257.out 6).trans rfl
            have hcz18_7 : wc.cell? ⟨gb257, 7, none⟩ = some (.int .u64 a0_7) := (blk_cell BK257.out 7).trans rfl
            have hcz18_8 : wc.cell? ⟨gb257, 8, none⟩ = some (.int .u64 a0_8) := (blk_cell BK257.out 8).trans rfl
            have hcz18_9 : wc.cell? ⟨gb257, 9, none⟩ = some (.int .u64 a0_9) := (blk_cell BK257.out 9).trans rfl
            have hcz18_10 : wc.cell? ⟨gb257, 10, none⟩ = some (.slice A0_10 l0_10.length c0_10) := (blk_cell BK257.out 10).trans rfl
            have hcz18_11 : wc.cell? ⟨gb257, 11, none⟩ = some (.slice A0_11 l0_11.length c0_11) := (blk_cell BK257.out 11).trans rfl
            have hfz18_0 := blk_frozen BK257.out 0
            have hfz18_1 := blk_frozen BK257.out 1
            have hfz18_2 := blk_frozen BK257.out 2
            have hfz18_3 := blk_frozen BK257.out 3
            have hfz18_4 := blk_frozen BK257.out 4
            have hfz18_5 := blk_frozen BK257.out 5
            have hfz18_6 := blk_frozen BK257.out 6
            have hfz18_7 := blk_frozen BK257.out 7
            have hfz18_8 := blk_frozen BK257.out 8
            have hfz18_9 := blk_frozen BK257.out 9
            have hfz18_10 := blk_frozen BK257.out 10
            have hfz18_11 := blk_frozen BK257.out 11
            go_wp2
            go_ret
            exact ⟨by first | rfl | (simp [errW_none, errW_some] <;> rfl) | (simp [*, errW_none, errW_some] <;> rfl), by repeat (first | (with_reducible first | exact HB.out | apply below_alloc | apply pw_below_drewN | apply below_drew1 | refine below_set ?_ GE257.out | refine below_set ?_ GE258.out) | exact HB.out)⟩
          · rw [if_neg c15] at H
            have c15b0 : decide ((IntKind.u64.wrap ((l0_10.length : Int))) ≤ a1_5) = false := decide_eq_false c15
            clear c15
            by_cases c19 : 0 ≤ a1_5
            · rw [if_pos c19] at H
              have c19b0 : decide (0 ≤ a1_5) = true := decide_eq_true c19
              clear c19
              by_cases c20 : a1_5 < (l0_10.length : Int)
              · rw [if_pos c20] at H
                have c20b0 : decide (a1_5 < (l0_10.length : Int)) = true := decide_eq_true c20
                clear c20
                replace H := Option.bind_eq_some_iff.mp H
                obtain ⟨t260, A210, H⟩ := H
                replace H : (some t260) = some r := H
                have A21 := Aside0.mk A210
                clear A210
                obtain rfl := Option.some.inj H
                have hnb22 := NB258_257.out
                have hnc22 := NB257_258.out
                have hcz23_0 : wc.cell? ⟨gb258, 0, none⟩ = some (.string a1_0) := (blk_cell BK258.out 0).trans rfl
                have hcz23_1 : wc.cell? ⟨gb258, 1, none⟩ = some (.int .u64 a1_1) := (blk_cell BK258.out 1).trans rfl
                have hcz23_2 : wc.cell? ⟨gb258, 2, none⟩ = some (.int .u64 a1_2) := (blk_cell BK258.out 2).trans rfl
                have hcz23_3 : wc.cell? ⟨gb258, 3, none⟩ = some (.int .u64 a1_3) := (blk_cell BK258.out 3).trans rfl
                have hcz23_4 : wc.cell? ⟨gb258, 4, none⟩ = some (.int .u64 a1_4) := (blk_cell BK258.out 4).trans rfl
                have hcz23_5 : wc.cell? ⟨gb258, 5, none⟩ = some (.int .u64 a1_5) := (blk_cell BK258.out 5).trans rfl
                have hcz23_6 : wc.cell? ⟨gb258, 6, none⟩ = some (.bool false) := (blk_cell BK258.out 6).trans rfl
                have hfz23_0 := blk_frozen BK258.out 0
                have hfz23_1 := blk_frozen BK258.out 1
                have hfz23_2 := blk_frozen BK258.out 2
                have hfz23_3 := blk_frozen BK258.out 3
                have hfz23_4 := blk_frozen BK258.out 4
                have hfz23_5 := blk_frozen BK258.out 5
                have hfz23_6 := blk_frozen BK258.out 6
                have hcz24_0 : wc.cell? ⟨gb257, 0, none⟩ = some (.bool a0_0) := (blk_cell BK257.out 0).trans rfl
                have hcz24_1 : wc.cell? ⟨gb257, 1, none⟩ = some (.bool a0_1) := (blk_cell BK257.out 1).trans rfl
                have hcz24_2 : wc.cell? ⟨gb257, 2, none⟩ = some (.int .u8 a0_2) := (blk_cell BK257.out 2).trans rfl
                have hcz24_3 : wc.cell? ⟨gb257, 3, none⟩ = some (.int .u8 a0_3) := (blk_cell BK257.out 3).trans rfl
                have hcz24_4 : wc.cell? ⟨gb257, 4, none⟩ = some (.string a0_4) := (blk_cell BK257.out 4).trans rfl
                have hcz24_5 : wc.cell? ⟨gb257, 5, none⟩ = some (.int .u64 a0_5) := (blk_cell BK257.out 5).trans rfl
                have hcz24_6 : wc.cell? ⟨gb257, 6, none⟩ = some (.int .u64 a0_6) := (blk_cell BK257.out 6).trans rfl
                have hcz24_7 : wc.cell? ⟨gb257, 7, none⟩ = some (.int .u64 a0_7) := (blk_cell BK257.out 7).trans rfl
                have hcz24_8 : wc.cell? ⟨gb257, 8, none⟩ = some (.int .u64 a0_8) := (blk_cell BK257.out 8).trans rfl
                have hcz24_9 : wc.cell? ⟨gb257, 9, none⟩ = some (.int .u64 a0_9) := (blk_cell BK257.out 9).trans rfl
                have hcz24_10 : wc.cell? ⟨gb257, 10, none⟩ = some (.slice A0_10 l0_10.length c0_10) := (blk_cell BK257.out 10).trans rfl
                have hcz24_11 : wc.cell? ⟨gb257, 11, none⟩ = some (.slice A0_11 l0_11.length c0_11) := (blk_cell BK257.out 11).trans rfl
                have hfz24_0 := blk_frozen BK257.out 0
                have hfz24_1 := blk_frozen BK257.out 1
                have hfz24_2 := blk_frozen BK257.out 2
                have hfz24_3 := blk_frozen BK257.out 3
                have hfz24_4 := blk_frozen BK257.out 4
                have hfz24_5 := blk_frozen BK257.out 5
                have hfz24_6 := blk_frozen BK257.out 6
                have hfz24_7 := blk_frozen BK257.out 7
                have hfz24_8 := blk_frozen BK257.out 8
                have hfz24_9 := blk_frozen BK257.out 9
                have hfz24_10 := blk_frozen BK257.out 10
                have hfz24_11 := blk_frozen BK257.out 11
                have p259 : 0 ≤ (a1_5 : Int) := of_decide_eq_true (by first | (with_reducible assumption) | assumption)
                have q259 : a1_5 < (l0_10.length : Int) := of_decide_eq_true (by first | (with_reducible assumption) | assumption)
                obtain ⟨ad259, A259_10, c259_10, A259_11, c259_11, A259_12, c259_12, e259, hx259_0, hx259_1, hx259_2, hx259_3, hx259_4, hx259_5, hx259_6, hx259_7, hx259_8, hx259_9, hx259_10, hx259_11, hx259_12, hl259_10, hi259_10, hl259_11, hi259_11, hl259_12, hi259_12⟩ := at_T80 HR0_10.out a1_5 p259 q259
                cases e259
                replace hx259_0 := (HB.out.cell (World.block_lt_of_cell? w _ hx259_0)).trans hx259_0
                replace hx259_1 := (HB.out.cell (World.block_lt_of_cell? w _ hx259_1)).trans hx259_1
                replace hx259_2 := (HB.out.cell (World.block_lt_of_cell? w _ hx259_2)).trans hx259_2
                replace hx259_3 := (HB.out.cell (World.block_lt_of_cell? w _ hx259_3)).trans hx259_3
                replace hx259_4 := (HB.out.cell (World.block_lt_of_cell? w _ hx259_4)).trans hx259_4
                replace hx259_5 := (HB.out.cell (World.block_lt_of_cell? w _ hx259_5)).trans hx259_5
                replace hx259_6 := (HB.out.cell (World.block_lt_of_cell? w _ hx259_6)).trans hx259_6
                replace hx259_7 := (HB.out.cell (World.block_lt_of_cell? w _ hx259_7)).trans hx259_7
                replace hx259_8 := (HB.out.cell (World.block_lt_of_cell? w _ hx259_8)).trans hx259_8
                replace hx259_9 := (HB.out.cell (World.block_lt_of_cell? w _ hx259_9)).trans hx259_9
                replace hx259_10 := (HB.out.cell (World.block_lt_of_cell? w _ hx259_10)).trans hx259_10
                replace hx259_11 := (HB.out.cell (World.block_lt_of_cell? w _ hx259_11)).trans hx259_11
                replace hx259_12 := (HB.out.cell (World.block_lt_of_cell? w _ hx259_12)).trans hx259_12
                have HR259_10 := Aside0.mk hi259_10
                have HC259_10 := Aside0.mk hl259_10
                clear hi259_10 hl259_10
                have HR259_11 := Aside0.mk hi259_11
                have HC259_11 := Aside0.mk hl259_11
                clear hi259_11 hl259_11
                have HR259_12 := Aside0.mk hi259_12
                have HC259_12 := Aside0.mk hl259_12
                clear hi259_12 hl259_12
                replace p259 := eq_true p259
                replace q259 := eq_true q259
                go_wp2_with (first | ((with_reducible refine gate_callee (f := 70) rfl ?_); refine goesL_ (some 30) rfl rfl Tryz.func70 (by kernel_rfl) rfl #[.agg #[.string ((rd_T80 l0_10 a1_5).f0), .int .u64 ((rd_T80 l0_10 a1_5).f1), .int .u64 ((rd_T80 l0_10 a1_5).f2), .int .u64 ((rd_T80 l0_10 a1_5).f3), .int .u64 ((rd_T80 l0_10 a1_5).f4), .int .u64 ((rd_T80 l0_10 a1_5).f5), .int .u64 ((rd_T80 l0_10 a1_5).f6), .int .u64 ((rd_T80 l0_10 a1_5).f7), .int .u64 ((rd_T80 l0_10 a1_5).f8), .string ((rd_T80 l0_10 a1_5).f9), .slice A259_10 ((rd_T80 l0_10 a1_5).f10).length c259_10, .slice A259_11 ((rd_T80 l0_10 a1_5).f11).length c259_11, .slice A259_12 ((rd_T80 l0_10 a1_5).f12).length c259_12]] rfl (by (try simp only [List.map_toArray, List.map_cons, List.map_nil]); first | done | rfl | (simp only [List.length_drop, List.length_take]; rfl)) ?_; (with_reducible refine (nm_inSection.calls ((rd_T80 l0_10 a1_5).f0) ((rd_T80 l0_10 a1_5).f1) ((rd_T80 l0_10 a1_5).f2) ((rd_T80 l0_10 a1_5).f3) ((rd_T80 l0_10 a1_5).f4) ((rd_T80 l0_10 a1_5).f5) ((rd_T80 l0_10 a1_5).f6) ((rd_T80 l0_10 a1_5).f7) ((rd_T80 l0_10 a1_5).f8) ((rd_T80 l0_10 a1_5).f9) _ _ ((rd_T80 l0_10 a1_5).f10) _ _ ((rd_T80 l0_10 a1_5).f11) _ _ ((rd_T80 l0_10 a1_5).f12) t260 _ ?side1 ?side2 ?side3 ?side4 ?side5 ?side6 A21.out).mono ?_); (case side1 => repeat (first | exact (Kd.C_below HR259_10.out HB.out) | (with_reducible refine Kd.C_alloc ?_ _) | (with_reducible refine Kd.C_drewN ?_ _) | (with_reducible refine Kd.C_drew ?_))); (case side2 => exact HC259_10.out); (case side3 => repeat (first | exact (Kd.C_below HR259_11.out HB.out) | (with_reducible refine Kd.C_alloc ?_ _) | (with_reducible refine Kd.C_drewN ?_ _) | (with_reducible refine Kd.C_drew ?_))); (case side4 => exact HC259_11.out); (case side5 => repeat (first | exact (Kd.C_below HR259_12.out HB.out) | (with_reducible refine Kd.C_alloc ?_ _) | (with_reducible refine Kd.C_drewN ?_ _) | (with_reducible refine Kd.C_drew ?_))); (case side6 => exact HC259_12.out); rintro e w25 ⟨rfl, hb⟩; refine ⟨_, rfl, ?_⟩; have n0_ := Aside0.mk (blk_below (g := gb257) (o := .cells #[.bool a0_0, .bool a0_1, .int .u8 a0_2, .int .u8 a0_3, .string a0_4, .int .u64 a0_5, .int .u64 a0_6, .int .u64 a0_7, .int .u64 a0_8, .int .u64 a0_9, .slice (some ad259) l0_10.length c0_10, .slice A0_11 l0_11.length c0_11] 48 (0, 0)) (by (with_reducible repeat (first | refine blk_drewN ?_ _ | refine blk_drew ?_ | refine blk_alloc ?_ _)); exact BK257.out) hb); have n1_ := Aside0.mk (blk_below (g := gb258) (o := .cells #[.string a1_0, .int .u64 a1_1, .int .u64 a1_2, .int .u64 a1_3, .int .u64 a1_4, .int .u64 a1_5, .bool false] 81 (0, 0)) (by (with_reducible repeat (first | refine blk_drewN ?_ _ | refine blk_drew ?_ | refine blk_alloc ?_ _)); exact BK258.out) hb); have n2_ := Aside0.mk (below_step (by repeat (first | (with_reducible first | exact HB.out | apply below_alloc | apply pw_below_drewN | apply below_drew1 | refine below_set ?_ GE257.out | refine below_set ?_ GE258.out) | exact HB.out)) hb); clear BK257; clear BK258; clear HB; have BK257 := n0_; have BK258 := n1_; have HB := n2_; clear n0_ n1_ n2_; (try clear hb); (try clear hb2); (try clear hk); (try clear hi)))
                go_ret
                exact ⟨by first | rfl | (simp [errW_none, errW_some] <;> rfl) | (simp [*, errW_none, errW_some] <;> rfl), by repeat (first | (with_reducible first | exact HB.out | apply below_alloc | apply pw_below_drewN | apply below_drew1 | refine below_set ?_ GE257.out | refine below_set ?_ GE258.out) | exact HB.out)⟩
              · rw [if_neg c20] at H
                exact absurd H (by simp)
            · rw [if_neg c19] at H
              exact absurd H (by simp)

section
open Go.Proofs.YtkbamfiokhmpjaaGreatDoor
/-! ### strings_ToLower: function 50 (given) -/
def strings_ToLower.f (a0 : ByteArray) : Option (ByteArray) := if a0.size ≤ 1000 ∧ (a0.data.toList.all fun b => decide (b.toNat < 128)) = true then some ⟨(Lib.toLowerA a0.data.toList).toArray⟩ else none
theorem strings_ToLower.calls (a0 : ByteArray) (r : ByteArray) (w : World) (h : strings_ToLower.f a0 = some r) :
    Calls Tryz.prog 50 #[.string a0] w fun e w' => e = .returned (.string r) ∧ Below w.heap.size w w' := by
  unfold strings_ToLower.f at h
  split at h
  · rename_i hc
    injection h with h
    subst h
    exact lower_g a0 hc w
  · cases h
end

end Go.Proofs.YtkbamfiokhmpjaaGreatDoorX.Kd

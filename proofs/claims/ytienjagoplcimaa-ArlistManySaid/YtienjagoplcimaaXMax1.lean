-- PRINTED by print.py (a twelfth state) out of the translation. Not trusted: Lean checks it.
import Derived.Test.YtienjagoplcimaaXMax0
namespace Go.Proofs.YtienjagoplcimaaX.Ma
open Go.RowKit Go.Proofs.YtienjagoplcimaaW.PrintWords Go.Proofs.YtienjagoplcimaaW.PrintLast Go.Proofs.YtienjagoplcimaaW.PrintMore
attribute [local go_sem] max2_int min2_int max_two min_two max_three min_three max_four min_four   -- for this text's walks alone
set_option linter.unusedVariables false
set_option linter.unusedSimpArgs false

section
open Go.Proofs.Ytienjagoplcimaa
/-! ### graverlaw23_speaks: function 8 (given) -/
def graverlaw23_speaks.f  : Option (Bool) := some true
theorem graverlaw23_speaks.calls  (r : Bool) (w : World) (h : graverlaw23_speaks.f  = some r) :
    Calls Try.prog 8 #[] w fun e w' => e = .returned (.bool r) ∧ Below w.heap.size w w' := by
  obtain rfl : true = r := Option.some.inj h
  exact speaks_m w
end

section
open Go.Proofs.Ytienjagoplcimaa
theorem flat_single : ∀ l : List ByteArray, (l.flatMap fun s => [Value.string s]) = l.map Value.string
  | [] => rfl
  | x :: r => by rw [List.flatMap_cons, flat_single r]; rfl
def toM (e : S28) : MemD := ⟨e.f0, e.f1, e.f2, e.f3, e.f4, e.f5⟩
def ofM (e : MemD) : S28 := ⟨e.n, e.a, e.b, e.c, e.d, e.s⟩
theorem toM_flat (l : List S28) : (l.map toM).flatMap encM = l.flatMap fun e : S28 => [Value.string e.f0, .int .u64 e.f1, .int .u64 e.f2, .int .u64 e.f3, .int .u64 e.f4, .string e.f5] := by
  rw [List.flatMap_map]; rfl
theorem ofM_flat (l : List MemD) : (l.map ofM).flatMap (fun e : S28 => [Value.string e.f0, .int .u64 e.f1, .int .u64 e.f2, .int .u64 e.f3, .int .u64 e.f4, .string e.f5]) = l.flatMap encM := by
  rw [List.flatMap_map]; rfl
theorem rd_M {w : World} {A : Option Addr} {l : List S28} (h : Kd.C k28 w A l.length l) : Rd w A ((l.map toM).flatMap encM) := by
  rw [toM_flat]
  exact rd_of_C (d := k28) _ (by decide) (fun _ => rfl) (fun _ _ _ h => k28_open h) h
theorem R_M {w : World} {base : Nat} {v : Value} {l : List MemD} (h : w.ownsRow base 28 6 v l.length (l.flatMap encM)) : Kd.R k28 28 w base (fun _ => True) v (l.map ofM) := by
  refine R_of_owns (fun e : S28 => [.string e.f0, .int .u64 e.f1, .int .u64 e.f2, .int .u64 e.f3, .int .u64 e.f4, .string e.f5]) (fun _ => rfl) (fun w b ok x => k28_mkM w b ok x) ?_ (fun _ _ => trivial)
  rw [ofM_flat, List.length_map]
  exact h
/-! ### ar_Member: function 20 (given) -/
def ar_Member.f (l0 : List (S28)) : Option ((List (S28))) := if l0.length ≤ 1000000 then some l0 else none
theorem ar_Member.calls (A0 : Option Addr) (c0 : Nat) (l0 : List (S28)) (r : List (S28)) (w : World) (hr0 : Kd.C k28 w A0 l0.length l0) (hc0 : l0.length ≤ c0) (h : ar_Member.f l0 = some r) :
    Calls Try.prog 20 #[.slice A0 l0.length c0] w fun e w' => ∃ v0_ : Value, e = .returned (v0_) ∧ Kd.R k28 28 w' w.heap.size (fun _ => True) v0_ r ∧ Below w.heap.size w w' := by
  unfold ar_Member.f at h
  split at h
  · rename_i hc
    injection h with h
    subst h
    have hm := clone_m (l0.map toM) (by rw [List.length_map]; exact hc) A0 c0 w (rd_M hr0)
    rw [List.length_map] at hm
    refine hm.mono ?_
    rintro e w' ⟨⟨v, he, ho⟩, hb⟩
    refine ⟨v, he, ?_, hb⟩
    rw [toM_flat] at ho
    exact R_of_owns (fun e : S28 => [.string e.f0, .int .u64 e.f1, .int .u64 e.f2, .int .u64 e.f3, .int .u64 e.f4, .string e.f5]) (fun _ => rfl) (fun w b ok x => k28_mkM w b ok x) ho (fun _ _ => trivial)
  · cases h
end

section
open Go.Proofs.Ytienjagoplcimaa
/-! ### arlist_find: function 21 (given) -/
def arlist_find.f (l0 : List (S28)) (a1 : ByteArray) : Option (Int) := if l0.length ≤ 1000000 then some (findI (l0.map toM) a1) else none
theorem arlist_find.calls (A0 : Option Addr) (c0 : Nat) (l0 : List (S28)) (a1 : ByteArray) (r : Int) (w : World) (hr0 : Kd.C k28 w A0 l0.length l0) (hc0 : l0.length ≤ c0) (h : arlist_find.f l0 a1 = some r) :
    Calls Try.prog 21 #[.slice A0 l0.length c0, .string a1] w fun e w' => e = .returned (.int .i64 r) ∧ Below w.heap.size w w' := by
  unfold arlist_find.f at h
  split at h
  · rename_i hc
    injection h with h
    subst h
    have hm := find_m (l0.map toM) (by rw [List.length_map]; exact hc) a1 A0 c0 w (rd_M hr0)
    rw [List.length_map] at hm
    exact hm
  · cases h
end

section
open Go.Proofs.Ytienjagoplcimaa
/-! ### ar_Good: function 14 (given) -/
def ar_Good.f (a0 : ByteArray) : Option (Bool) := if 0 < a0.size ∧ a0.size ≤ 255 ∧ (a0.data.toList.all fun b => decide (b.toNat < 128)) = true then some (!Lib.containsAny a0.data.toList [47, 10, 0]) else none
theorem ar_Good.calls (a0 : ByteArray) (r : Bool) (w : World) (h : ar_Good.f a0 = some r) :
    Calls Try.prog 14 #[.string a0] w fun e w' => e = .returned (.bool r) ∧ Below w.heap.size w w' := by
  unfold ar_Good.f at h
  split at h
  · rename_i hc
    injection h with h
    subst h
    exact good_m a0 hc.1 hc.2.1 (fun j b hj => of_decide_eq_true (List.all_eq_true.1 hc.2.2 b (List.mem_of_getElem? hj))) w
  · cases h
end

/-! ### arlist_bad: function 22 -/
def arlist_bad.f (a0_0 : ByteArray) (a0_1 : Int) (a0_2 : Int) (a0_3 : Int) (a0_4 : Int) (a0_5 : ByteArray) : Option (Bool) := (ar_Good.f a0_0).bind fun t102 => (some (!t102))
set_option maxHeartbeats 8000000 in
set_option maxRecDepth 100000 in
theorem arlist_bad.calls (a0_0 : ByteArray) (a0_1 : Int) (a0_2 : Int) (a0_3 : Int) (a0_4 : Int) (a0_5 : ByteArray) (r : Bool) (w : World) (h : arlist_bad.f a0_0 a0_1 a0_2 a0_3 a0_4 a0_5 = some r) :
    Calls Try.prog 22 #[.agg #[.string a0_0, .int .u64 a0_1, .int .u64 a0_2, .int .u64 a0_3, .int .u64 a0_4, .string a0_5]] w fun e w' => e = .returned (.bool r) ∧ Below w.heap.size w w' := by
  have hu28 := Try.underlying28
  have HB := Aside0.mk (Below.refl w.heap.size w)
  have H : ((ar_Good.f a0_0).bind fun t102 => (some (!t102))) = some r := h
  clear h
  replace H := Option.bind_eq_some_iff.mp H
  obtain ⟨t102, A20, H⟩ := H
  replace H : (some (!t102)) = some r := H
  have A2 := Aside0.mk A20
  clear A20
  obtain rfl := Option.some.inj H
  go_enter Try.func22, Try.ntmps22
  go_wp2_with (first | ((with_reducible refine gate_dst (N := 1) rfl ?_); refine box_event ?hg (N := 1) ?hd (cs := #[.string a0_0, .int .u64 a0_1, .int .u64 a0_2, .int .u64 a0_3, .int .u64 a0_4, .string a0_5]) (t := 28) ?hr ?_; (case hd => rfl); (case hg => rfl); (case hr => first | (go_simp; done) | (go_simp; rfl)); intro gb101 hg w3 hbox hb; have n0_ := Aside0.mk (below_step (by repeat (first | (with_reducible first | exact HB.out | apply below_alloc | apply pw_below_drewN | apply below_drew1) | exact HB.out)) hb); have n1_ := Aside0.mk (hbox); have n2_ := Aside0.mk ((by rw [hg]; exact (below_size (by repeat (first | (with_reducible first | exact HB.out | apply below_alloc | apply pw_below_drewN | apply below_drew1) | exact HB.out))) : w.heap.size ≤ gb101)); have n3_ := Aside0.mk ((by rw [hg]; exact (below_size (by repeat (first | (with_reducible first | exact HB.out | apply below_alloc | apply pw_below_drewN | apply below_drew1) | exact HB.out))) : w.heap.size ≤ gb101)); clear HB; have HB := n0_; have BK101 := n1_; have GW101 := n2_; have GE101 := n3_; clear n0_ n1_ n2_ n3_; clear hb hbox hg; have hcz4_0 : w3.cell? ⟨gb101, 0, none⟩ = some (.string a0_0) := (blk_cell BK101.out 0).trans rfl; have hcz4_1 : w3.cell? ⟨gb101, 1, none⟩ = some (.int .u64 a0_1) := (blk_cell BK101.out 1).trans rfl; have hcz4_2 : w3.cell? ⟨gb101, 2, none⟩ = some (.int .u64 a0_2) := (blk_cell BK101.out 2).trans rfl; have hcz4_3 : w3.cell? ⟨gb101, 3, none⟩ = some (.int .u64 a0_3) := (blk_cell BK101.out 3).trans rfl; have hcz4_4 : w3.cell? ⟨gb101, 4, none⟩ = some (.int .u64 a0_4) := (blk_cell BK101.out 4).trans rfl; have hcz4_5 : w3.cell? ⟨gb101, 5, none⟩ = some (.string a0_5) := (blk_cell BK101.out 5).trans rfl; have hfz4_0 := blk_frozen BK101.out 0; have hfz4_1 := blk_frozen BK101.out 1; have hfz4_2 := blk_frozen BK101.out 2; have hfz4_3 := blk_frozen BK101.out 3; have hfz4_4 := blk_frozen BK101.out 4; have hfz4_5 := blk_frozen BK101.out 5) | ((with_reducible refine gate_callee (f := 14) rfl ?_); refine goesL_ (some 5) rfl rfl Try.func14 (by kernel_rfl) rfl #[.string a0_0] rfl (by (try simp only [List.map_toArray, List.map_cons, List.map_nil]); first | done | rfl | (simp only [List.length_drop, List.length_take]; rfl)) ?_; (with_reducible refine (ar_Good.calls a0_0 t102 _ A2.out).mono ?_); rintro e w5 ⟨rfl, hb⟩; refine ⟨_, rfl, ?_⟩; have n0_ := Aside0.mk (blk_below (g := gb101) (o := .cells #[.string a0_0, .int .u64 a0_1, .int .u64 a0_2, .int .u64 a0_3, .int .u64 a0_4, .string a0_5] 28 (0, 0)) (by (with_reducible repeat (first | refine blk_drewN ?_ _ | refine blk_drew ?_ | refine blk_alloc ?_ _)); exact BK101.out) hb); have n1_ := Aside0.mk (below_step (by repeat (first | (with_reducible first | exact HB.out | apply below_alloc | apply pw_below_drewN | apply below_drew1 | refine below_set ?_ GE101.out) | exact HB.out)) hb); clear BK101; clear HB; have BK101 := n0_; have HB := n1_; clear n0_ n1_; (try clear hb); (try clear hb2); (try clear hk); (try clear hi)))
  go_ret
  exact ⟨by first | rfl | (simp [errW_none, errW_some] <;> rfl) | (simp [*, errW_none, errW_some] <;> rfl), by repeat (first | (with_reducible first | exact HB.out | apply below_alloc | apply pw_below_drewN | apply below_drew1 | refine below_set ?_ GE101.out) | exact HB.out)⟩

/-! ### arlist_Replace: function 9 -/
def arlist_Replace.l0 : Nat → List (S28) → List (S28) → Int → Int → Option ((List (S28)) × Int)
  | 0, _, _, _, _ => none
  | k + 1, x6, x12, x13, x14 => if x14 < x13 then (if 0 ≤ x14 then (if x14 < (x12.length : Int) then ((arlist_find.f x6 ((rd_T28 x12 x14).f0)).bind fun t108 => ((arlist_bad.f ((rd_T28 x12 x14).f0) ((rd_T28 x12 x14).f1) ((rd_T28 x12 x14).f2) ((rd_T28 x12 x14).f3) ((rd_T28 x12 x14).f4) ((rd_T28 x12 x14).f5)).bind fun t109 => (if t109 = true then (some (([] : List (S28)), 12)) else (if t108 ≥ 0 then (if 0 ≤ t108 then (if t108 < (x6.length : Int) then (arlist_Replace.l0 k (x6.set (t108 : Int).toNat (⟨(rd_T28 x12 x14).f0, (rd_T28 x12 x14).f1, (rd_T28 x12 x14).f2, (rd_T28 x12 x14).f3, (rd_T28 x12 x14).f4, (rd_T28 x12 x14).f5⟩ : S28)) x12 x13 (wrap64 (x14 + 1))) else (none)) else (none)) else (if (x6.length : Int) ≥ 1024 then (some (([] : List (S28)), 10)) else (if x6.length < 2199023255552 then (arlist_Replace.l0 k (x6 ++ [(⟨(rd_T28 x12 x14).f0, (rd_T28 x12 x14).f1, (rd_T28 x12 x14).f2, (rd_T28 x12 x14).f3, (rd_T28 x12 x14).f4, (rd_T28 x12 x14).f5⟩ : S28)]) x12 x13 (wrap64 (x14 + 1))) else (none))))))) else (none)) else (none)) else (some (x6, 0))
def arlist_Replace.f (k : Nat) (l0 : List (S28)) (l1 : List (S28)) : Option ((List (S28)) × Int) := (ar_Member.f l0).bind fun t103 => (arlist_Replace.l0 k t103 l1 (l1.length : Int) 0)
theorem arlist_Replace.mono_l : ∀ k, (∀ y0 y1 y2 y3, LeO (arlist_Replace.l0 k y0 y1 y2 y3) (arlist_Replace.l0 (k + 1) y0 y1 y2 y3))
  | 0 => fun _ _ _ _ r h => by simp [arlist_Replace.l0] at h
  | k + 1 => by
    have ih0 := arlist_Replace.mono_l k
    · intro y0 y1 y2 y3
      unfold arlist_Replace.l0
      repeat' first
      | (with_reducible exact ih0 _ _ _ _)
      | (with_reducible exact LeO.refl _)
      | (with_reducible exact LeO.none _)
      | (with_reducible refine LeO.ite ?_ ?_)
      | (with_reducible refine LeO.bind ?_ (fun _ => ?_))
      | exact ih0 _ _ _ _
      | exact LeO.none _
      | refine LeO.ite ?_ ?_
      | refine LeO.bind ?_ (fun _ => ?_)
theorem arlist_Replace.mono : ∀ a0 a1 k, LeO (arlist_Replace.f k a0 a1) (arlist_Replace.f (k + 1) a0 a1) := by
  intro a0 a1 k
  have ih0 := arlist_Replace.mono_l k
  unfold arlist_Replace.f
  repeat' first
      | (with_reducible exact ih0 _ _ _ _)
      | (with_reducible exact LeO.refl _)
      | (with_reducible exact LeO.none _)
      | (with_reducible refine LeO.ite ?_ ?_)
      | (with_reducible refine LeO.bind ?_ (fun _ => ?_))
      | exact ih0 _ _ _ _
      | exact LeO.none _
      | refine LeO.ite ?_ ?_
      | refine LeO.bind ?_ (fun _ => ?_)
set_option maxHeartbeats 8000000 in
set_option maxRecDepth 100000 in
theorem arlist_Replace.calls (k : Nat) (A0 : Option Addr) (c0 : Nat) (l0 : List (S28)) (A1 : Option Addr) (c1 : Nat) (l1 : List (S28)) (r1 : List (S28)) (r2 : Int) (w : World) (hr0 : Kd.C k28 w A0 l0.length l0) (hc0 : l0.length ≤ c0) (hr1 : Kd.C k28 w A1 l1.length l1) (hc1 : l1.length ≤ c1) (h : arlist_Replace.f k l0 l1 = some (r1, r2)) :
    Calls Try.prog 9 #[.slice A0 l0.length c0, .slice A1 l1.length c1] w fun e w' => ∃ v0_ : Value, e = .returned (.tuple #[v0_, .int .i64 r2]) ∧ Kd.R k28 28 w' w.heap.size (fun _ => True) v0_ r1 ∧ Below w.heap.size w w' := by
  have hu28 := Try.underlying28
  have HR0 := Aside0.mk hr0
  have HC0 := Aside0.mk hc0
  clear hr0 hc0
  have HR1 := Aside0.mk hr1
  have HC1 := Aside0.mk hc1
  clear hr1 hc1
  have HB := Aside0.mk (Below.refl w.heap.size w)
  have H : ((ar_Member.f l0).bind fun t103 => (arlist_Replace.l0 k t103 l1 (l1.length : Int) 0)) = some (r1, r2) := h
  clear h
  replace H := Option.bind_eq_some_iff.mp H
  obtain ⟨t103, A30, H⟩ := H
  replace H : (arlist_Replace.l0 k t103 l1 (l1.length : Int) 0) = some (r1, r2) := H
  have A3 := Aside0.mk A30
  clear A30
  have H' := Aside0.mk H
  clear H
  go_enter Try.func9, Try.ntmps9
  go_wp2_with (first | ((with_reducible refine gate_callee (f := 20) rfl ?_); refine goesL_ (some 11) rfl rfl Try.func20 (by kernel_rfl) rfl #[.slice A0 l0.length c0] rfl (by (try simp only [List.map_toArray, List.map_cons, List.map_nil]); first | done | rfl | (simp only [List.length_drop, List.length_take]; rfl)) ?_; (with_reducible refine (ar_Member.calls _ _ l0 t103 _ ?side1 ?side2 A3.out).mono ?_); (case side1 => repeat (first | exact HR0.out | (with_reducible refine Kd.C_alloc ?_ _) | (with_reducible refine Kd.C_drewN ?_ _) | (with_reducible refine Kd.C_drew ?_))); (case side2 => exact HC0.out); rintro e w4 ⟨v104, rfl, ho0, hb⟩; refine ⟨_, rfl, ?_⟩; have n0_ := Aside0.mk (Kd.R_lower ho0 (below_size (by repeat (first | (with_reducible first | exact HB.out | apply below_alloc | apply pw_below_drewN | apply below_drew1) | exact HB.out)))); have n1_ := Aside0.mk (below_step (by repeat (first | (with_reducible first | exact HB.out | apply below_alloc | apply pw_below_drewN | apply below_drew1) | exact HB.out)) hb); clear HB; have HO105 := n0_; have HB := n1_; clear n0_ n1_; (try clear hb); (try clear hb2); (try clear hk); (try clear hi); (try clear ho0)))
  go_loopg [6, 14] k (fun kq v6 v14 w' => ∃ (x6_1 : List (S28)) (x14_1 : Int), v14 = .int .i64 x14_1 ∧ Aside0 (arlist_Replace.l0 kq x6_1 l1 (l1.length : Int) x14_1 = some (r1, r2)) ∧ Aside0 (kq ≤ k) ∧ Aside0 (Kd.R k28 28 w' w.heap.size (fun _ => True) v6 x6_1) ∧ Aside0 (Below w.heap.size w w'))
  case atStart => exact ⟨(t103), (0), (by first | rfl | (simp; done) | (simp [*]; done)), H', ⟨Nat.le_refl _⟩, ⟨by (with_reducible repeat (first | apply Kd.R_alloc | apply Kd.R_drewN | apply Kd.R_drew)); exact HO105.out⟩, ⟨by repeat (first | (with_reducible first | exact HB.out | apply below_alloc | apply pw_below_drewN | apply below_drew1) | exact HB.out)⟩⟩
  case round =>
    clear H'
    try clear c1
    try clear c2
    try clear p2
    obtain ⟨x6_1, x14_1, rfl, HA, HK1, HO_6, HB⟩ := hrel
    cases gk with
    | zero => exact absurd HA.out (by simp [arlist_Replace.l0])
    | succ k1 =>
      have H := HA.out
      clear HA
      simp only [arlist_Replace.l0] at H
      by_cases c5 : x14_1 < (l1.length : Int)
      · rw [if_pos c5] at H
        have c5b0 : decide (x14_1 < (l1.length : Int)) = true := decide_eq_true c5
        clear c5
        by_cases c6 : 0 ≤ x14_1
        · rw [if_pos c6] at H
          have c6b0 : decide (0 ≤ x14_1) = true := decide_eq_true c6
          clear c6
          by_cases c7 : x14_1 < (l1.length : Int)
          · rw [if_pos c7] at H
            have c7b0 : decide (x14_1 < (l1.length : Int)) = true := decide_eq_true c7
            clear c7
            replace H := Option.bind_eq_some_iff.mp H
            obtain ⟨t108, A80, H⟩ := H
            replace H : ((arlist_bad.f ((rd_T28 l1 x14_1).f0) ((rd_T28 l1 x14_1).f1) ((rd_T28 l1 x14_1).f2) ((rd_T28 l1 x14_1).f3) ((rd_T28 l1 x14_1).f4) ((rd_T28 l1 x14_1).f5)).bind fun t109 => (if t109 = true then (some (([] : List (S28)), 12)) else (if t108 ≥ 0 then (if 0 ≤ t108 then (if t108 < (x6_1.length : Int) then (arlist_Replace.l0 k1 (x6_1.set (t108 : Int).toNat (⟨(rd_T28 l1 x14_1).f0, (rd_T28 l1 x14_1).f1, (rd_T28 l1 x14_1).f2, (rd_T28 l1 x14_1).f3, (rd_T28 l1 x14_1).f4, (rd_T28 l1 x14_1).f5⟩ : S28)) l1 (l1.length : Int) (wrap64 (x14_1 + 1))) else (none)) else (none)) else (if (x6_1.length : Int) ≥ 1024 then (some (([] : List (S28)), 10)) else (if x6_1.length < 2199023255552 then (arlist_Replace.l0 k1 (x6_1 ++ [(⟨(rd_T28 l1 x14_1).f0, (rd_T28 l1 x14_1).f1, (rd_T28 l1 x14_1).f2, (rd_T28 l1 x14_1).f3, (rd_T28 l1 x14_1).f4, (rd_T28 l1 x14_1).f5⟩ : S28)]) l1 (l1.length : Int) (wrap64 (x14_1 + 1))) else (none)))))) = some (r1, r2) := H
            have A8 := Aside0.mk A80
            clear A80
            replace H := Option.bind_eq_some_iff.mp H
            obtain ⟨t109, A90, H⟩ := H
            replace H : (if t109 = true then (some (([] : List (S28)), 12)) else (if t108 ≥ 0 then (if 0 ≤ t108 then (if t108 < (x6_1.length : Int) then (arlist_Replace.l0 k1 (x6_1.set (t108 : Int).toNat (⟨(rd_T28 l1 x14_1).f0, (rd_T28 l1 x14_1).f1, (rd_T28 l1 x14_1).f2, (rd_T28 l1 x14_1).f3, (rd_T28 l1 x14_1).f4, (rd_T28 l1 x14_1).f5⟩ : S28)) l1 (l1.length : Int) (wrap64 (x14_1 + 1))) else (none)) else (none)) else (if (x6_1.length : Int) ≥ 1024 then (some (([] : List (S28)), 10)) else (if x6_1.length < 2199023255552 then (arlist_Replace.l0 k1 (x6_1 ++ [(⟨(rd_T28 l1 x14_1).f0, (rd_T28 l1 x14_1).f1, (rd_T28 l1 x14_1).f2, (rd_T28 l1 x14_1).f3, (rd_T28 l1 x14_1).f4, (rd_T28 l1 x14_1).f5⟩ : S28)]) l1 (l1.length : Int) (wrap64 (x14_1 + 1))) else (none))))) = some (r1, r2) := H
            have A9 := Aside0.mk A90
            clear A90
            by_cases c10 : t109 = true
            · subst c10
              have H1 : (some (([] : List (S28)), 12)) = some (r1, r2) := by rw [if_pos rfl] at H; exact H
              clear H
              have H := H1
              clear H1
              simp only [Option.some.injEq, Prod.mk.injEq] at H
              obtain ⟨rfl, rfl⟩ := H
              have p106 : 0 ≤ (x14_1 : Int) := of_decide_eq_true (by first | (with_reducible assumption) | assumption)
              have q106 : x14_1 < (l1.length : Int) := of_decide_eq_true (by first | (with_reducible assumption) | assumption)
              obtain ⟨ad106, e106, hx106_0, hx106_1, hx106_2, hx106_3, hx106_4, hx106_5⟩ := at_T28 HR1.out x14_1 p106 q106
              cases e106
              replace hx106_0 := (HB.out.cell (World.block_lt_of_cell? w _ hx106_0)).trans hx106_0
              replace hx106_1 := (HB.out.cell (World.block_lt_of_cell? w _ hx106_1)).trans hx106_1
              replace hx106_2 := (HB.out.cell (World.block_lt_of_cell? w _ hx106_2)).trans hx106_2
              replace hx106_3 := (HB.out.cell (World.block_lt_of_cell? w _ hx106_3)).trans hx106_3
              replace hx106_4 := (HB.out.cell (World.block_lt_of_cell? w _ hx106_4)).trans hx106_4
              replace hx106_5 := (HB.out.cell (World.block_lt_of_cell? w _ hx106_5)).trans hx106_5
              replace p106 := eq_true p106
              replace q106 := eq_true q106
              go_wp2_with (first | ((with_reducible refine gate_dst (N := 8) rfl ?_); refine box_event ?hg (N := 8) ?hd (cs := #[.string (⟨#[]⟩ : ByteArray), .int .u64 0, .int .u64 0, .int .u64 0, .int .u64 0, .string (⟨#[]⟩ : ByteArray)]) (t := 28) ?hr ?_; (case hd => rfl); (case hg => rfl); (case hr => first | (go_simp; done) | (go_simp; rfl)); intro gb107 hg w11 hbox hb; have n0_ := Aside0.mk (Kd.R_below (Kd.R_elderB (by (with_reducible repeat (first | apply Kd.R_alloc | apply Kd.R_drewN | apply Kd.R_drew)); exact HO_6.out) gb107 (Nat.le_of_eq hg.symm)) hb); have n1_ := Aside0.mk (below_step (by repeat (first | (with_reducible first | exact HB.out | apply below_alloc | apply pw_below_drewN | apply below_drew1) | exact HB.out)) hb); have n2_ := Aside0.mk (hbox); have n3_ := Aside0.mk ((by rw [hg]; exact (below_size (by repeat (first | (with_reducible first | exact HB.out | apply below_alloc | apply pw_below_drewN | apply below_drew1) | exact HB.out))) : w.heap.size ≤ gb107)); have n4_ := Aside0.mk ((by rw [hg]; exact (below_size (by repeat (first | (with_reducible first | exact HB.out | apply below_alloc | apply pw_below_drewN | apply below_drew1) | exact HB.out))) : w.heap.size ≤ gb107)); clear HO_6; clear HB; have HO_6 := n0_; have HB := n1_; have BK107 := n2_; have GW107 := n3_; have GE107 := n4_; clear n0_ n1_ n2_ n3_ n4_; clear hb hbox hg; have hcz12_0 : w11.cell? ⟨gb107, 0, none⟩ = some (.string (⟨#[]⟩ : ByteArray)) := (blk_cell BK107.out 0).trans rfl; have hcz12_1 : w11.cell? ⟨gb107, 1, none⟩ = some (.int .u64 0) := (blk_cell BK107.out 1).trans rfl; have hcz12_2 : w11.cell? ⟨gb107, 2, none⟩ = some (.int .u64 0) := (blk_cell BK107.out 2).trans rfl; have hcz12_3 : w11.cell? ⟨gb107, 3, none⟩ = some (.int .u64 0) := (blk_cell BK107.out 3).trans rfl; have hcz12_4 : w11.cell? ⟨gb107, 4, none⟩ = some (.int .u64 0) := (blk_cell BK107.out 4).trans rfl; have hcz12_5 : w11.cell? ⟨gb107, 5, none⟩ = some (.string (⟨#[]⟩ : ByteArray)) := (blk_cell BK107.out 5).trans rfl; have hfz12_0 := blk_frozen BK107.out 0; have hfz12_1 := blk_frozen BK107.out 1; have hfz12_2 := blk_frozen BK107.out 2; have hfz12_3 := blk_frozen BK107.out 3; have hfz12_4 := blk_frozen BK107.out 4; have hfz12_5 := blk_frozen BK107.out 5; obtain ⟨Ao13, co13, eo13⟩ := Kd.R_slice HO_6.out; subst eo13) | ((with_reducible refine gate_callee (f := 21) rfl ?_); refine goesL_ (some 21) rfl rfl Try.func21 (by kernel_rfl) rfl #[.slice Ao13 x6_1.length co13, .string ((rd_T28 l1 x14_1).f0)] rfl (by (try simp only [List.map_toArray, List.map_cons, List.map_nil]); first | done | rfl | (simp only [List.length_drop, List.length_take]; rfl)) ?_; (with_reducible refine (arlist_find.calls _ _ x6_1 ((rd_T28 l1 x14_1).f0) t108 _ ?side1 ?side2 A8.out).mono ?_); (case side1 => refine (Kd.R_reads' (e := 28) (base := w.heap.size) (ok := fun k_ => (True ∧ k_ ≠ gb107)) (n := x6_1.length) (c := co13) ?_).2.2; exact (by (with_reducible repeat (first | apply Kd.R_alloc | apply Kd.R_drewN | apply Kd.R_drew)); exact (Kd.R_mono (Kd.R_far (p := ⟨gb107, 5, none⟩) (Kd.R_far (p := ⟨gb107, 4, none⟩) (Kd.R_far (p := ⟨gb107, 3, none⟩) (Kd.R_far (p := ⟨gb107, 2, none⟩) (Kd.R_far (p := ⟨gb107, 1, none⟩) (Kd.R_far (p := ⟨gb107, 0, none⟩) (Kd.R_mono HO_6.out (fun k_ hk => (⟨hk, hk.2⟩ : _ ∧ k_ ≠ gb107))) (fun _ hk => hk.2) (.string ((rd_T28 l1 x14_1).f0))) (fun _ hk => hk.2) (.int .u64 ((rd_T28 l1 x14_1).f1))) (fun _ hk => hk.2) (.int .u64 ((rd_T28 l1 x14_1).f2))) (fun _ hk => hk.2) (.int .u64 ((rd_T28 l1 x14_1).f3))) (fun _ hk => hk.2) (.int .u64 ((rd_T28 l1 x14_1).f4))) (fun _ hk => hk.2) (.string ((rd_T28 l1 x14_1).f5))) (fun _ h_ => h_.1)))); (case side2 => exact (Kd.R_reads' HO_6.out).2.1); rintro e w14 ⟨rfl, hb⟩; refine ⟨_, rfl, ?_⟩; have n0_ := Aside0.mk (Kd.R_below (by (with_reducible repeat (first | apply Kd.R_alloc | apply Kd.R_drewN | apply Kd.R_drew)); exact (Kd.R_mono (Kd.R_far (p := ⟨gb107, 5, none⟩) (Kd.R_far (p := ⟨gb107, 4, none⟩) (Kd.R_far (p := ⟨gb107, 3, none⟩) (Kd.R_far (p := ⟨gb107, 2, none⟩) (Kd.R_far (p := ⟨gb107, 1, none⟩) (Kd.R_far (p := ⟨gb107, 0, none⟩) (Kd.R_mono HO_6.out (fun k_ hk => (⟨hk, hk.2⟩ : _ ∧ k_ ≠ gb107))) (fun _ hk => hk.2) (.string ((rd_T28 l1 x14_1).f0))) (fun _ hk => hk.2) (.int .u64 ((rd_T28 l1 x14_1).f1))) (fun _ hk => hk.2) (.int .u64 ((rd_T28 l1 x14_1).f2))) (fun _ hk => hk.2) (.int .u64 ((rd_T28 l1 x14_1).f3))) (fun _ hk => hk.2) (.int .u64 ((rd_T28 l1 x14_1).f4))) (fun _ hk => hk.2) (.string ((rd_T28 l1 x14_1).f5))) (fun _ h_ => h_.1))) hb); have n1_ := Aside0.mk (blk_below (g := gb107) (o := .cells #[.string ((rd_T28 l1 x14_1).f0), .int .u64 ((rd_T28 l1 x14_1).f1), .int .u64 ((rd_T28 l1 x14_1).f2), .int .u64 ((rd_T28 l1 x14_1).f3), .int .u64 ((rd_T28 l1 x14_1).f4), .string ((rd_T28 l1 x14_1).f5)] 28 (0, 0)) (by (with_reducible repeat (first | refine blk_drewN ?_ _ | refine blk_drew ?_ | refine blk_alloc ?_ _)); refine blk_put (cs := #[.string ((rd_T28 l1 x14_1).f0), .int .u64 ((rd_T28 l1 x14_1).f1), .int .u64 ((rd_T28 l1 x14_1).f2), .int .u64 ((rd_T28 l1 x14_1).f3), .int .u64 ((rd_T28 l1 x14_1).f4), .string (⟨#[]⟩ : ByteArray)]) ?_ 5 _ rfl; (with_reducible repeat (first | refine blk_drewN ?_ _ | refine blk_drew ?_ | refine blk_alloc ?_ _)); refine blk_put (cs := #[.string ((rd_T28 l1 x14_1).f0), .int .u64 ((rd_T28 l1 x14_1).f1), .int .u64 ((rd_T28 l1 x14_1).f2), .int .u64 ((rd_T28 l1 x14_1).f3), .int .u64 0, .string (⟨#[]⟩ : ByteArray)]) ?_ 4 _ rfl; (with_reducible repeat (first | refine blk_drewN ?_ _ | refine blk_drew ?_ | refine blk_alloc ?_ _)); refine blk_put (cs := #[.string ((rd_T28 l1 x14_1).f0), .int .u64 ((rd_T28 l1 x14_1).f1), .int .u64 ((rd_T28 l1 x14_1).f2), .int .u64 0, .int .u64 0, .string (⟨#[]⟩ : ByteArray)]) ?_ 3 _ rfl; (with_reducible repeat (first | refine blk_drewN ?_ _ | refine blk_drew ?_ | refine blk_alloc ?_ _)); refine blk_put (cs := #[.string ((rd_T28 l1 x14_1).f0), .int .u64 ((rd_T28 l1 x14_1).f1), .int .u64 0, .int .u64 0, .int .u64 0, .string (⟨#[]⟩ : ByteArray)]) ?_ 2 _ rfl; (with_reducible repeat (first | refine blk_drewN ?_ _ | refine blk_drew ?_ | refine blk_alloc ?_ _)); refine blk_put (cs := #[.string ((rd_T28 l1 x14_1).f0), .int .u64 0, .int .u64 0, .int .u64 0, .int .u64 0, .string (⟨#[]⟩ : ByteArray)]) ?_ 1 _ rfl; (with_reducible repeat (first | refine blk_drewN ?_ _ | refine blk_drew ?_ | refine blk_alloc ?_ _)); refine blk_put (cs := #[.string (⟨#[]⟩ : ByteArray), .int .u64 0, .int .u64 0, .int .u64 0, .int .u64 0, .string (⟨#[]⟩ : ByteArray)]) ?_ 0 _ rfl; (with_reducible repeat (first | refine blk_drewN ?_ _ | refine blk_drew ?_ | refine blk_alloc ?_ _)); exact BK107.out) hb); have n2_ := Aside0.mk (below_step (by repeat (first | (with_reducible first | exact HB.out | apply below_alloc | apply pw_below_drewN | apply below_drew1 | refine below_set ?_ GE107.out) | exact HB.out)) hb); clear HO_6; clear BK107; clear HB; have HO_6 := n0_; have BK107 := n1_; have HB := n2_; clear n0_ n1_ n2_; (try clear hb); (try clear hb2); (try clear hk); (try clear hi); have hcz15_0 : w14.cell? ⟨gb107, 0, none⟩ = some (.string ((rd_T28 l1 x14_1).f0)) := (blk_cell BK107.out 0).trans rfl; have hcz15_1 : w14.cell? ⟨gb107, 1, none⟩ = some (.int .u64 ((rd_T28 l1 x14_1).f1)) := (blk_cell BK107.out 1).trans rfl; have hcz15_2 : w14.cell? ⟨gb107, 2, none⟩ = some (.int .u64 ((rd_T28 l1 x14_1).f2)) := (blk_cell BK107.out 2).trans rfl; have hcz15_3 : w14.cell? ⟨gb107, 3, none⟩ = some (.int .u64 ((rd_T28 l1 x14_1).f3)) := (blk_cell BK107.out 3).trans rfl; have hcz15_4 : w14.cell? ⟨gb107, 4, none⟩ = some (.int .u64 ((rd_T28 l1 x14_1).f4)) := (blk_cell BK107.out 4).trans rfl; have hcz15_5 : w14.cell? ⟨gb107, 5, none⟩ = some (.string ((rd_T28 l1 x14_1).f5)) := (blk_cell BK107.out 5).trans rfl; have hfz15_0 := blk_frozen BK107.out 0; have hfz15_1 := blk_frozen BK107.out 1; have hfz15_2 := blk_frozen BK107.out 2; have hfz15_3 := blk_frozen BK107.out 3; have hfz15_4 := blk_frozen BK107.out 4; have hfz15_5 := blk_frozen BK107.out 5) | ((with_reducible refine gate_callee (f := 22) rfl ?_); refine goesL_ (some 28) rfl rfl Try.func22 (by kernel_rfl) rfl #[.agg #[.string ((rd_T28 l1 x14_1).f0), .int .u64 ((rd_T28 l1 x14_1).f1), .int .u64 ((rd_T28 l1 x14_1).f2), .int .u64 ((rd_T28 l1 x14_1).f3), .int .u64 ((rd_T28 l1 x14_1).f4), .string ((rd_T28 l1 x14_1).f5)]] rfl (by (try simp only [List.map_toArray, List.map_cons, List.map_nil]); first | done | rfl | (simp only [List.length_drop, List.length_take]; rfl)) ?_; (with_reducible refine (arlist_bad.calls ((rd_T28 l1 x14_1).f0) ((rd_T28 l1 x14_1).f1) ((rd_T28 l1 x14_1).f2) ((rd_T28 l1 x14_1).f3) ((rd_T28 l1 x14_1).f4) ((rd_T28 l1 x14_1).f5) true _ A9.out).mono ?_); rintro e w16 ⟨rfl, hb⟩; refine ⟨_, rfl, ?_⟩; have n0_ := Aside0.mk (Kd.R_below (by (with_reducible repeat (first | apply Kd.R_alloc | apply Kd.R_drewN | apply Kd.R_drew)); exact HO_6.out) hb); have n1_ := Aside0.mk (blk_below (g := gb107) (o := .cells #[.string ((rd_T28 l1 x14_1).f0), .int .u64 ((rd_T28 l1 x14_1).f1), .int .u64 ((rd_T28 l1 x14_1).f2), .int .u64 ((rd_T28 l1 x14_1).f3), .int .u64 ((rd_T28 l1 x14_1).f4), .string ((rd_T28 l1 x14_1).f5)] 28 (0, 0)) (by (with_reducible repeat (first | refine blk_drewN ?_ _ | refine blk_drew ?_ | refine blk_alloc ?_ _)); exact BK107.out) hb); have n2_ := Aside0.mk (below_step (by repeat (first | (with_reducible first | exact HB.out | apply below_alloc | apply pw_below_drewN | apply below_drew1 | refine below_set ?_ GE107.out) | exact HB.out)) hb); clear HO_6; clear BK107; clear HB; have HO_6 := n0_; have BK107 := n1_; have HB := n2_; clear n0_ n1_ n2_; (try clear hb); (try clear hb2); (try clear hk); (try clear hi)))
              go_ret2
              exact ⟨_, by first | rfl | (simp [errW_none, errW_some] <;> rfl) | (simp [*, errW_none, errW_some] <;> rfl), by first | exact Kd.R_nil _ _ _ _ _ | exact Kd.N_nil _ _ _ _ _ | exact Kd.V_nil _ _ _ _ _ | exact Kd.Q_nil _ _ _ _ _ | exact Kd.S_nil _ _ _ _ _, by repeat (first | (with_reducible first | exact HB.out | apply below_alloc | apply pw_below_drewN | apply below_drew1 | refine below_set ?_ GE107.out) | exact HB.out)⟩
            · replace c10 := Bool.eq_false_iff.mpr c10
              subst c10
              have H1 : (if t108 ≥ 0 then (if 0 ≤ t108 then (if t108 < (x6_1.length : Int) then (arlist_Replace.l0 k1 (x6_1.set (t108 : Int).toNat (⟨(rd_T28 l1 x14_1).f0, (rd_T28 l1 x14_1).f1, (rd_T28 l1 x14_1).f2, (rd_T28 l1 x14_1).f3, (rd_T28 l1 x14_1).f4, (rd_T28 l1 x14_1).f5⟩ : S28)) l1 (l1.length : Int) (wrap64 (x14_1 + 1))) else (none)) else (none)) else (if (x6_1.length : Int) ≥ 1024 then (some (([] : List (S28)), 10)) else (if x6_1.length < 2199023255552 then (arlist_Replace.l0 k1 (x6_1 ++ [(⟨(rd_T28 l1 x14_1).f0, (rd_T28 l1 x14_1).f1, (rd_T28 l1 x14_1).f2, (rd_T28 l1 x14_1).f3, (rd_T28 l1 x14_1).f4, (rd_T28 l1 x14_1).f5⟩ : S28)]) l1 (l1.length : Int) (wrap64 (x14_1 + 1))) else (none)))) = some (r1, r2) := by rw [if_neg (show ¬ (false = true) by decide)] at H; exact H
              clear H
              have H := H1
              clear H1
              by_cases c17 : t108 ≥ 0
              · rw [if_pos c17] at H
                have c17b0 : decide (0 ≤ t108) = true := decide_eq_true c17
                clear c17
                by_cases c18 : 0 ≤ t108
                · rw [if_pos c18] at H
                  have c18b0 : decide (0 ≤ t108) = true := decide_eq_true c18
                  clear c18
                  by_cases c19 : t108 < (x6_1.length : Int)
                  · rw [if_pos c19] at H
                    have c19b0 : decide (t108 < (x6_1.length : Int)) = true := decide_eq_true c19
                    clear c19
                    obtain ⟨y110, hy110⟩ : ∃ y_ : List (S28), y_ = (x6_1.set (t108 : Int).toNat (⟨(rd_T28 l1 x14_1).f0, (rd_T28 l1 x14_1).f1, (rd_T28 l1 x14_1).f2, (rd_T28 l1 x14_1).f3, (rd_T28 l1 x14_1).f4, (rd_T28 l1 x14_1).f5⟩ : S28)) := ⟨_, rfl⟩
                    replace H : (arlist_Replace.l0 k1 y110 l1 (l1.length : Int) (wrap64 (x14_1 + 1))) = some (r1, r2) := by first | (rw [hy110]; with_reducible exact H) | (have H2_ := (Option.bind_some _ _).symm.trans H; rw [hy110]; with_reducible exact H2_) | (have H2_ := (Option.bind_some _ _).symm.trans H; with_reducible exact H2_) | with_reducible exact H | (rw [hy110]; exact H) | exact H
                    have Ny110 := Aside0.mk hy110
                    clear hy110
                    have H' := Aside0.mk H
                    clear H
                    have p106 : 0 ≤ (x14_1 : Int) := of_decide_eq_true (by first | (with_reducible assumption) | assumption)
                    have q106 : x14_1 < (l1.length : Int) := of_decide_eq_true (by first | (with_reducible assumption) | assumption)
                    obtain ⟨ad106, e106, hx106_0, hx106_1, hx106_2, hx106_3, hx106_4, hx106_5⟩ := at_T28 HR1.out x14_1 p106 q106
                    cases e106
                    replace hx106_0 := (HB.out.cell (World.block_lt_of_cell? w _ hx106_0)).trans hx106_0
                    replace hx106_1 := (HB.out.cell (World.block_lt_of_cell? w _ hx106_1)).trans hx106_1
                    replace hx106_2 := (HB.out.cell (World.block_lt_of_cell? w _ hx106_2)).trans hx106_2
                    replace hx106_3 := (HB.out.cell (World.block_lt_of_cell? w _ hx106_3)).trans hx106_3
                    replace hx106_4 := (HB.out.cell (World.block_lt_of_cell? w _ hx106_4)).trans hx106_4
                    replace hx106_5 := (HB.out.cell (World.block_lt_of_cell? w _ hx106_5)).trans hx106_5
                    replace p106 := eq_true p106
                    replace q106 := eq_true q106
                    go_wp2_with (first | ((with_reducible refine gate_dst (N := 8) rfl ?_); refine box_event ?hg (N := 8) ?hd (cs := #[.string (⟨#[]⟩ : ByteArray), .int .u64 0, .int .u64 0, .int .u64 0, .int .u64 0, .string (⟨#[]⟩ : ByteArray)]) (t := 28) ?hr ?_; (case hd => rfl); (case hg => rfl); (case hr => first | (go_simp; done) | (go_simp; rfl)); intro gb107 hg w21 hbox hb; have n0_ := Aside0.mk (Kd.R_below (Kd.R_elderB (by (with_reducible repeat (first | apply Kd.R_alloc | apply Kd.R_drewN | apply Kd.R_drew)); exact HO_6.out) gb107 (Nat.le_of_eq hg.symm)) hb); have n1_ := Aside0.mk (below_step (by repeat (first | (with_reducible first | exact HB.out | apply below_alloc | apply pw_below_drewN | apply below_drew1) | exact HB.out)) hb); have n2_ := Aside0.mk (hbox); have n3_ := Aside0.mk ((by rw [hg]; exact (below_size (by repeat (first | (with_reducible first | exact HB.out | apply below_alloc | apply pw_below_drewN | apply below_drew1) | exact HB.out))) : w.heap.size ≤ gb107)); have n4_ := Aside0.mk ((by rw [hg]; exact (below_size (by repeat (first | (with_reducible first | exact HB.out | apply below_alloc | apply pw_below_drewN | apply below_drew1) | exact HB.out))) : w.heap.size ≤ gb107)); clear HO_6; clear HB; have HO_6 := n0_; have HB := n1_; have BK107 := n2_; have GW107 := n3_; have GE107 := n4_; clear n0_ n1_ n2_ n3_ n4_; clear hb hbox hg; have hcz22_0 : w21.cell? ⟨gb107, 0, none⟩ = some (.string (⟨#[]⟩ : ByteArray)) := (blk_cell BK107.out 0).trans rfl; have hcz22_1 : w21.cell? ⟨gb107, 1, none⟩ = some (.int .u64 0) := (blk_cell BK107.out 1).trans rfl; have hcz22_2 : w21.cell? ⟨gb107, 2, none⟩ = some (.int .u64 0) := (blk_cell BK107.out 2).trans rfl; have hcz22_3 : w21.cell? ⟨gb107, 3, none⟩ = some (.int .u64 0) := (blk_cell BK107.out 3).trans rfl; have hcz22_4 : w21.cell? ⟨gb107, 4, none⟩ = some (.int .u64 0) := (blk_cell BK107.out 4).trans rfl; have hcz22_5 : w21.cell? ⟨gb107, 5, none⟩ = some (.string (⟨#[]⟩ : ByteArray)) := (blk_cell BK107.out 5).trans rfl; have hfz22_0 := blk_frozen BK107.out 0; have hfz22_1 := blk_frozen BK107.out 1; have hfz22_2 := blk_frozen BK107.out 2; have hfz22_3 := blk_frozen BK107.out 3; have hfz22_4 := blk_frozen BK107.out 4; have hfz22_5 := blk_frozen BK107.out 5; obtain ⟨Ao23, co23, eo23⟩ := Kd.R_slice HO_6.out; subst eo23) | ((with_reducible refine gate_callee (f := 21) rfl ?_); refine goesL_ (some 21) rfl rfl Try.func21 (by kernel_rfl) rfl #[.slice Ao23 x6_1.length co23, .string ((rd_T28 l1 x14_1).f0)] rfl (by (try simp only [List.map_toArray, List.map_cons, List.map_nil]); first | done | rfl | (simp only [List.length_drop, List.length_take]; rfl)) ?_; (with_reducible refine (arlist_find.calls _ _ x6_1 ((rd_T28 l1 x14_1).f0) t108 _ ?side1 ?side2 A8.out).mono ?_); (case side1 => refine (Kd.R_reads' (e := 28) (base := w.heap.size) (ok := fun k_ => (True ∧ k_ ≠ gb107)) (n := x6_1.length) (c := co23) ?_).2.2; exact (by (with_reducible repeat (first | apply Kd.R_alloc | apply Kd.R_drewN | apply Kd.R_drew)); exact (Kd.R_mono (Kd.R_far (p := ⟨gb107, 5, none⟩) (Kd.R_far (p := ⟨gb107, 4, none⟩) (Kd.R_far (p := ⟨gb107, 3, none⟩) (Kd.R_far (p := ⟨gb107, 2, none⟩) (Kd.R_far (p := ⟨gb107, 1, none⟩) (Kd.R_far (p := ⟨gb107, 0, none⟩) (Kd.R_mono HO_6.out (fun k_ hk => (⟨hk, hk.2⟩ : _ ∧ k_ ≠ gb107))) (fun _ hk => hk.2) (.string ((rd_T28 l1 x14_1).f0))) (fun _ hk => hk.2) (.int .u64 ((rd_T28 l1 x14_1).f1))) (fun _ hk => hk.2) (.int .u64 ((rd_T28 l1 x14_1).f2))) (fun _ hk => hk.2) (.int .u64 ((rd_T28 l1 x14_1).f3))) (fun _ hk => hk.2) (.int .u64 ((rd_T28 l1 x14_1).f4))) (fun _ hk => hk.2) (.string ((rd_T28 l1 x14_1).f5))) (fun _ h_ => h_.1)))); (case side2 => exact (Kd.R_reads' HO_6.out).2.1); rintro e w24 ⟨rfl, hb⟩; refine ⟨_, rfl, ?_⟩; have n0_ := Aside0.mk (Kd.R_below (by (with_reducible repeat (first | apply Kd.R_alloc | apply Kd.R_drewN | apply Kd.R_drew)); exact (Kd.R_mono (Kd.R_far (p := ⟨gb107, 5, none⟩) (Kd.R_far (p := ⟨gb107, 4, none⟩) (Kd.R_far (p := ⟨gb107, 3, none⟩) (Kd.R_far (p := ⟨gb107, 2, none⟩) (Kd.R_far (p := ⟨gb107, 1, none⟩) (Kd.R_far (p := ⟨gb107, 0, none⟩) (Kd.R_mono HO_6.out (fun k_ hk => (⟨hk, hk.2⟩ : _ ∧ k_ ≠ gb107))) (fun _ hk => hk.2) (.string ((rd_T28 l1 x14_1).f0))) (fun _ hk => hk.2) (.int .u64 ((rd_T28 l1 x14_1).f1))) (fun _ hk => hk.2) (.int .u64 ((rd_T28 l1 x14_1).f2))) (fun _ hk => hk.2) (.int .u64 ((rd_T28 l1 x14_1).f3))) (fun _ hk => hk.2) (.int .u64 ((rd_T28 l1 x14_1).f4))) (fun _ hk => hk.2) (.string ((rd_T28 l1 x14_1).f5))) (fun _ h_ => h_.1))) hb); have n1_ := Aside0.mk (blk_below (g := gb107) (o := .cells #[.string ((rd_T28 l1 x14_1).f0), .int .u64 ((rd_T28 l1 x14_1).f1), .int .u64 ((rd_T28 l1 x14_1).f2), .int .u64 ((rd_T28 l1 x14_1).f3), .int .u64 ((rd_T28 l1 x14_1).f4), .string ((rd_T28 l1 x14_1).f5)] 28 (0, 0)) (by (with_reducible repeat (first | refine blk_drewN ?_ _ | refine blk_drew ?_ | refine blk_alloc ?_ _)); refine blk_put (cs := #[.string ((rd_T28 l1 x14_1).f0), .int .u64 ((rd_T28 l1 x14_1).f1), .int .u64 ((rd_T28 l1 x14_1).f2), .int .u64 ((rd_T28 l1 x14_1).f3), .int .u64 ((rd_T28 l1 x14_1).f4), .string (⟨#[]⟩ : ByteArray)]) ?_ 5 _ rfl; (with_reducible repeat (first | refine blk_drewN ?_ _ | refine blk_drew ?_ | refine blk_alloc ?_ _)); refine blk_put (cs := #[.string ((rd_T28 l1 x14_1).f0), .int .u64 ((rd_T28 l1 x14_1).f1), .int .u64 ((rd_T28 l1 x14_1).f2), .int .u64 ((rd_T28 l1 x14_1).f3), .int .u64 0, .string (⟨#[]⟩ : ByteArray)]) ?_ 4 _ rfl; (with_reducible repeat (first | refine blk_drewN ?_ _ | refine blk_drew ?_ | refine blk_alloc ?_ _)); refine blk_put (cs := #[.string ((rd_T28 l1 x14_1).f0), .int .u64 ((rd_T28 l1 x14_1).f1), .int .u64 ((rd_T28 l1 x14_1).f2), .int .u64 0, .int .u64 0, .string (⟨#[]⟩ : ByteArray)]) ?_ 3 _ rfl; (with_reducible repeat (first | refine blk_drewN ?_ _ | refine blk_drew ?_ | refine blk_alloc ?_ _)); refine blk_put (cs := #[.string ((rd_T28 l1 x14_1).f0), .int .u64 ((rd_T28 l1 x14_1).f1), .int .u64 0, .int .u64 0, .int .u64 0, .string (⟨#[]⟩ : ByteArray)]) ?_ 2 _ rfl; (with_reducible repeat (first | refine blk_drewN ?_ _ | refine blk_drew ?_ | refine blk_alloc ?_ _)); refine blk_put (cs := #[.string ((rd_T28 l1 x14_1).f0), .int .u64 0, .int .u64 0, .int .u64 0, .int .u64 0, .string (⟨#[]⟩ : ByteArray)]) ?_ 1 _ rfl; (with_reducible repeat (first | refine blk_drewN ?_ _ | refine blk_drew ?_ | refine blk_alloc ?_ _)); refine blk_put (cs := #[.string (⟨#[]⟩ : ByteArray), .int .u64 0, .int .u64 0, .int .u64 0, .int .u64 0, .string (⟨#[]⟩ : ByteArray)]) ?_ 0 _ rfl; (with_reducible repeat (first | refine blk_drewN ?_ _ | refine blk_drew ?_ | refine blk_alloc ?_ _)); exact BK107.out) hb); have n2_ := Aside0.mk (below_step (by repeat (first | (with_reducible first | exact HB.out | apply below_alloc | apply pw_below_drewN | apply below_drew1 | refine below_set ?_ GE107.out) | exact HB.out)) hb); clear HO_6; clear BK107; clear HB; have HO_6 := n0_; have BK107 := n1_; have HB := n2_; clear n0_ n1_ n2_; (try clear hb); (try clear hb2); (try clear hk); (try clear hi); have hcz25_0 : w24.cell? ⟨gb107, 0, none⟩ = some (.string ((rd_T28 l1 x14_1).f0)) := (blk_cell BK107.out 0).trans rfl; have hcz25_1 : w24.cell? ⟨gb107, 1, none⟩ = some (.int .u64 ((rd_T28 l1 x14_1).f1)) := (blk_cell BK107.out 1).trans rfl; have hcz25_2 : w24.cell? ⟨gb107, 2, none⟩ = some (.int .u64 ((rd_T28 l1 x14_1).f2)) := (blk_cell BK107.out 2).trans rfl; have hcz25_3 : w24.cell? ⟨gb107, 3, none⟩ = some (.int .u64 ((rd_T28 l1 x14_1).f3)) := (blk_cell BK107.out 3).trans rfl; have hcz25_4 : w24.cell? ⟨gb107, 4, none⟩ = some (.int .u64 ((rd_T28 l1 x14_1).f4)) := (blk_cell BK107.out 4).trans rfl; have hcz25_5 : w24.cell? ⟨gb107, 5, none⟩ = some (.string ((rd_T28 l1 x14_1).f5)) := (blk_cell BK107.out 5).trans rfl; have hfz25_0 := blk_frozen BK107.out 0; have hfz25_1 := blk_frozen BK107.out 1; have hfz25_2 := blk_frozen BK107.out 2; have hfz25_3 := blk_frozen BK107.out 3; have hfz25_4 := blk_frozen BK107.out 4; have hfz25_5 := blk_frozen BK107.out 5) | ((with_reducible refine gate_callee (f := 22) rfl ?_); refine goesL_ (some 28) rfl rfl Try.func22 (by kernel_rfl) rfl #[.agg #[.string ((rd_T28 l1 x14_1).f0), .int .u64 ((rd_T28 l1 x14_1).f1), .int .u64 ((rd_T28 l1 x14_1).f2), .int .u64 ((rd_T28 l1 x14_1).f3), .int .u64 ((rd_T28 l1 x14_1).f4), .string ((rd_T28 l1 x14_1).f5)]] rfl (by (try simp only [List.map_toArray, List.map_cons, List.map_nil]); first | done | rfl | (simp only [List.length_drop, List.length_take]; rfl)) ?_; (with_reducible refine (arlist_bad.calls ((rd_T28 l1 x14_1).f0) ((rd_T28 l1 x14_1).f1) ((rd_T28 l1 x14_1).f2) ((rd_T28 l1 x14_1).f3) ((rd_T28 l1 x14_1).f4) ((rd_T28 l1 x14_1).f5) false _ A9.out).mono ?_); rintro e w26 ⟨rfl, hb⟩; refine ⟨_, rfl, ?_⟩; have n0_ := Aside0.mk (Kd.R_below (by (with_reducible repeat (first | apply Kd.R_alloc | apply Kd.R_drewN | apply Kd.R_drew)); exact HO_6.out) hb); have n1_ := Aside0.mk (blk_below (g := gb107) (o := .cells #[.string ((rd_T28 l1 x14_1).f0), .int .u64 ((rd_T28 l1 x14_1).f1), .int .u64 ((rd_T28 l1 x14_1).f2), .int .u64 ((rd_T28 l1 x14_1).f3), .int .u64 ((rd_T28 l1 x14_1).f4), .string ((rd_T28 l1 x14_1).f5)] 28 (0, 0)) (by (with_reducible repeat (first | refine blk_drewN ?_ _ | refine blk_drew ?_ | refine blk_alloc ?_ _)); exact BK107.out) hb); have n2_ := Aside0.mk (below_step (by repeat (first | (with_reducible first | exact HB.out | apply below_alloc | apply pw_below_drewN | apply below_drew1 | refine below_set ?_ GE107.out) | exact HB.out)) hb); clear HO_6; clear BK107; clear HB; have HO_6 := n0_; have BK107 := n1_; have HB := n2_; clear n0_ n1_ n2_; (try clear hb); (try clear hb2); (try clear hk); (try clear hi); have hcz27_0 : w26.cell? ⟨gb107, 0, none⟩ = some (.string ((rd_T28 l1 x14_1).f0)) := (blk_cell BK107.out 0).trans rfl; have hcz27_1 : w26.cell? ⟨gb107, 1, none⟩ = some (.int .u64 ((rd_T28 l1 x14_1).f1)) := (blk_cell BK107.out 1).trans rfl; have hcz27_2 : w26.cell? ⟨gb107, 2, none⟩ = some (.int .u64 ((rd_T28 l1 x14_1).f2)) := (blk_cell BK107.out 2).trans rfl; have hcz27_3 : w26.cell? ⟨gb107, 3, none⟩ = some (.int .u64 ((rd_T28 l1 x14_1).f3)) := (blk_cell BK107.out 3).trans rfl; have hcz27_4 : w26.cell? ⟨gb107, 4, none⟩ = some (.int .u64 ((rd_T28 l1 x14_1).f4)) := (blk_cell BK107.out 4).trans rfl; have hcz27_5 : w26.cell? ⟨gb107, 5, none⟩ = some (.string ((rd_T28 l1 x14_1).f5)) := (blk_cell BK107.out 5).trans rfl; have hfz27_0 := blk_frozen BK107.out 0; have hfz27_1 := blk_frozen BK107.out 1; have hfz27_2 := blk_frozen BK107.out 2; have hfz27_3 := blk_frozen BK107.out 3; have hfz27_4 := blk_frozen BK107.out 4; have hfz27_5 := blk_frozen BK107.out 5; have p20 : 0 ≤ (t108 : Int) := of_decide_eq_true (by first | (with_reducible assumption) | assumption); have q20 : (t108 : Int) < ((x6_1.length : Int) : Int) := of_decide_eq_true (by first | (with_reducible assumption) | assumption); obtain ⟨go20, co20, eo20, gb20, gl20, cl20, HG20⟩ := Kd.R_form HO_6.out (by omega); (first | cases eo20 | (injection eo20 with ea_ en_ ec_; (first | subst ea_ | (injection ea_ with ea_; subst ea_)); subst ec_; clear en_)); have GB20 := Aside0.mk gb20; have GG20 := Aside0.mk HG20; clear gb20 gl20 HG20; obtain ⟨ce20, hcl20, hM20, hcc20, hfr20⟩ := Kd.R_elem HO_6.out z28 (t108 : Int) p20 q20; obtain rfl := k28_openM hM20; have hx20_0 : w26.cell? ⟨go20, (t108 : Int).toNat * 6, none⟩ = some (.string ((rd_T28 x6_1 t108).f0)) := hcc20 0 _ rfl; have hx20_1 : w26.cell? ⟨go20, (t108 : Int).toNat * 6 + 1, none⟩ = some (.int .u64 ((rd_T28 x6_1 t108).f1)) := hcc20 1 _ rfl; have hx20_2 : w26.cell? ⟨go20, (t108 : Int).toNat * 6 + 2, none⟩ = some (.int .u64 ((rd_T28 x6_1 t108).f2)) := hcc20 2 _ rfl; have hx20_3 : w26.cell? ⟨go20, (t108 : Int).toNat * 6 + 3, none⟩ = some (.int .u64 ((rd_T28 x6_1 t108).f3)) := hcc20 3 _ rfl; have hx20_4 : w26.cell? ⟨go20, (t108 : Int).toNat * 6 + 4, none⟩ = some (.int .u64 ((rd_T28 x6_1 t108).f4)) := hcc20 4 _ rfl; have hx20_5 : w26.cell? ⟨go20, (t108 : Int).toNat * 6 + 5, none⟩ = some (.string ((rd_T28 x6_1 t108).f5)) := hcc20 5 _ rfl; have hf20_0 : w26.frozen? ⟨go20, (t108 : Int).toNat * 6, none⟩ = false := hfr20 0; have hf20_1 : w26.frozen? ⟨go20, (t108 : Int).toNat * 6 + 1, none⟩ = false := hfr20 1; have hf20_2 : w26.frozen? ⟨go20, (t108 : Int).toNat * 6 + 2, none⟩ = false := hfr20 2; have hf20_3 : w26.frozen? ⟨go20, (t108 : Int).toNat * 6 + 3, none⟩ = false := hfr20 3; have hf20_4 : w26.frozen? ⟨go20, (t108 : Int).toNat * 6 + 4, none⟩ = false := hfr20 4; have hf20_5 : w26.frozen? ⟨go20, (t108 : Int).toNat * 6 + 5, none⟩ = false := hfr20 5; clear hcl20 hcc20 hfr20 hM20; replace p20 := eq_true p20; replace q20 := eq_true q20; have n_ := Aside0.mk (Kd.R_mono (ok' := (fun k_ => k_ ≠ gb107)) HO_6.out (fun k_ hk => hk.2)); clear HO_6; have HO_6 := n_; clear n_; have HX28 := Aside0.mk (show Kd.R k28 28 w26 w.heap.size (fun k_ => k_ ≠ gb107) (.slice (some ⟨go20, 0, none⟩) x6_1.length co23) x6_1 from (by (with_reducible repeat (first | apply Kd.R_alloc | apply Kd.R_drewN | apply Kd.R_drew)); exact HO_6.out)); obtain ⟨ce28, hcl28, hM28, hcc28, hfr28⟩ := Kd.R_elem HX28.out z28 (t108 : Int) (of_decide_eq_true (by first | (with_reducible assumption) | assumption)) (by have h_ : (t108 : Int) < ((x6_1.length : Int) : Int) := of_decide_eq_true (by first | (with_reducible assumption) | assumption); first | exact h_ | (have e_ := (Kd.R_reads' HO_6.out).1; omega) | simpa using h_); obtain rfl := k28_openM hM28; have HP28 := Kd.R_seg HX28.out (t108 : Int) (of_decide_eq_true (by first | (with_reducible assumption) | assumption)) (by have h_ : (t108 : Int) < ((x6_1.length : Int) : Int) := of_decide_eq_true (by first | (with_reducible assumption) | assumption); first | exact h_ | (have e_ := (Kd.R_reads' HO_6.out).1; omega) | simpa using h_) (seg := [.string ((rd_T28 l1 x14_1).f0), .int .u64 ((rd_T28 l1 x14_1).f1), .int .u64 ((rd_T28 l1 x14_1).f2), .int .u64 ((rd_T28 l1 x14_1).f3), .int .u64 ((rd_T28 l1 x14_1).f4), .string ((rd_T28 l1 x14_1).f5)]) (j := 0) hcl28 hcc28 (show 6 ≤ 6 from by decide) (x' := (⟨(rd_T28 l1 x14_1).f0, (rd_T28 l1 x14_1).f1, (rd_T28 l1 x14_1).f2, (rd_T28 l1 x14_1).f3, (rd_T28 l1 x14_1).f4, (rd_T28 l1 x14_1).f5⟩ : S28)) (k28_mkM _ _ _ (⟨(rd_T28 l1 x14_1).f0, (rd_T28 l1 x14_1).f1, (rd_T28 l1 x14_1).f2, (rd_T28 l1 x14_1).f3, (rd_T28 l1 x14_1).f4, (rd_T28 l1 x14_1).f5⟩ : S28) ) (fun _ hk => hk); have hx28_0 := hcc28 0 _ rfl; (try simp only [show (k28).sz = 6 from rfl, Nat.mul_one, Nat.add_zero] at hx28_0); have hf28_0 := hfr28 0; (try simp only [show (k28).sz = 6 from rfl, Nat.mul_one, Nat.add_zero] at hf28_0); have hx28_1 := hcc28 1 _ rfl; (try simp only [show (k28).sz = 6 from rfl, Nat.mul_one, Nat.add_zero] at hx28_1); have hf28_1 := hfr28 1; (try simp only [show (k28).sz = 6 from rfl, Nat.mul_one, Nat.add_zero] at hf28_1); have hx28_2 := hcc28 2 _ rfl; (try simp only [show (k28).sz = 6 from rfl, Nat.mul_one, Nat.add_zero] at hx28_2); have hf28_2 := hfr28 2; (try simp only [show (k28).sz = 6 from rfl, Nat.mul_one, Nat.add_zero] at hf28_2); have hx28_3 := hcc28 3 _ rfl; (try simp only [show (k28).sz = 6 from rfl, Nat.mul_one, Nat.add_zero] at hx28_3); have hf28_3 := hfr28 3; (try simp only [show (k28).sz = 6 from rfl, Nat.mul_one, Nat.add_zero] at hf28_3); have hx28_4 := hcc28 4 _ rfl; (try simp only [show (k28).sz = 6 from rfl, Nat.mul_one, Nat.add_zero] at hx28_4); have hf28_4 := hfr28 4; (try simp only [show (k28).sz = 6 from rfl, Nat.mul_one, Nat.add_zero] at hf28_4); have hx28_5 := hcc28 5 _ rfl; (try simp only [show (k28).sz = 6 from rfl, Nat.mul_one, Nat.add_zero] at hx28_5); have hf28_5 := hfr28 5; (try simp only [show (k28).sz = 6 from rfl, Nat.mul_one, Nat.add_zero] at hf28_5); clear hcl28 hcc28 hfr28 hM28) | ((with_reducible refine gate_store (t := 28) (p := 35) rfl ?_); refine store_event (t := 28) (p := 35) (v := ?vo_w29) (w1 := ((((((w26.setCell ⟨go20, (t108 : Int).toNat * 6, none⟩ (.string ((rd_T28 l1 x14_1).f0))).setCell ⟨go20, (t108 : Int).toNat * 6 + 1, none⟩ (.int .u64 ((rd_T28 l1 x14_1).f1))).setCell ⟨go20, (t108 : Int).toNat * 6 + 2, none⟩ (.int .u64 ((rd_T28 l1 x14_1).f2))).setCell ⟨go20, (t108 : Int).toNat * 6 + 3, none⟩ (.int .u64 ((rd_T28 l1 x14_1).f3))).setCell ⟨go20, (t108 : Int).toNat * 6 + 4, none⟩ (.int .u64 ((rd_T28 l1 x14_1).f4))).setCell ⟨go20, (t108 : Int).toNat * 6 + 5, none⟩ (.string ((rd_T28 l1 x14_1).f5)))) ?hg ?ho ?hn ?hr ?_; (case ho => rfl); (case hg => rfl); (case hn => rfl); (case hr => first | (go_simp; done) | (go_simp; rfl)); intro w29 hw; have hg : w26.grownBy w29 (some go20) := (by rw [hw]; exact HP28.2); have hp_ : Kd.R k28 28 w29 w.heap.size (fun k_ => k_ ≠ gb107) (.slice (some ⟨go20, 0, none⟩) x6_1.length co23) y110 := (by rw [hw, Ny110.out]; exact HP28.1); clear HP28; have n0_ := Aside0.mk (hp_); have n1_ := Aside0.mk (blk_grown (g := gb107) (o := .cells #[.string ((rd_T28 l1 x14_1).f0), .int .u64 ((rd_T28 l1 x14_1).f1), .int .u64 ((rd_T28 l1 x14_1).f2), .int .u64 ((rd_T28 l1 x14_1).f3), .int .u64 ((rd_T28 l1 x14_1).f4), .string ((rd_T28 l1 x14_1).f5)] 28 (0, 0)) (by (with_reducible repeat (first | refine blk_drewN ?_ _ | refine blk_drew ?_ | refine blk_alloc ?_ _)); exact BK107.out) hg (Kd.R_away HO_6.out (fun _ hk => hk))); have n2_ := Aside0.mk ((by rw [hw]; exact below_set (below_set (below_set (below_set (below_set (below_set (HB.out) GB20.out) GB20.out) GB20.out) GB20.out) GB20.out) GB20.out : Below w.heap.size w w29)); clear HO_6; clear BK107; clear HB; have HO_6 := n0_; have BK107 := n1_; have HB := n2_; clear n0_ n1_ n2_; clear hg hw hp_))
                    go_roundg k1
                    case measure => have := HK1.out; omega
                    case rel => exact ⟨(y110), (wrap64 (x14_1 + 1)), (by first | rfl | (simp; done) | (simp [*]; done)), H', ⟨by have := HK1.out; omega⟩, ⟨by (with_reducible repeat (first | apply Kd.R_alloc | apply Kd.R_drewN | apply Kd.R_drew)); exact Kd.R_mono HO_6.out (fun _ hk => trivial)⟩, ⟨by repeat (first | (with_reducible first | exact HB.out | apply below_alloc | apply pw_below_drewN | apply below_drew1 | refine below_set ?_ GE107.out) | exact HB.out)⟩⟩
                  · rw [if_neg c19] at H
                    exact absurd H (by simp)
                · rw [if_neg c18] at H
                  exact absurd H (by simp)
              · rw [if_neg c17] at H
                have c17b0 : decide (0 ≤ t108) = false := decide_eq_false c17
                clear c17
                by_cases c30 : (x6_1.length : Int) ≥ 1024
                · rw [if_pos c30] at H
                  have c30b0 : decide (1024 ≤ (x6_1.length : Int)) = true := decide_eq_true c30
                  have c30b1 : decide (1024 ≤ x6_1.length) = true := decide_eq_true (by omega)
                  clear c30
                  simp only [Option.some.injEq, Prod.mk.injEq] at H
                  obtain ⟨rfl, rfl⟩ := H
                  have p106 : 0 ≤ (x14_1 : Int) := of_decide_eq_true (by first | (with_reducible assumption) | assumption)
                  have q106 : x14_1 < (l1.length : Int) := of_decide_eq_true (by first | (with_reducible assumption) | assumption)
                  obtain ⟨ad106, e106, hx106_0, hx106_1, hx106_2, hx106_3, hx106_4, hx106_5⟩ := at_T28 HR1.out x14_1 p106 q106
                  cases e106
                  replace hx106_0 := (HB.out.cell (World.block_lt_of_cell? w _ hx106_0)).trans hx106_0
                  replace hx106_1 := (HB.out.cell (World.block_lt_of_cell? w _ hx106_1)).trans hx106_1
                  replace hx106_2 := (HB.out.cell (World.block_lt_of_cell? w _ hx106_2)).trans hx106_2
                  replace hx106_3 := (HB.out.cell (World.block_lt_of_cell? w _ hx106_3)).trans hx106_3
                  replace hx106_4 := (HB.out.cell (World.block_lt_of_cell? w _ hx106_4)).trans hx106_4
                  replace hx106_5 := (HB.out.cell (World.block_lt_of_cell? w _ hx106_5)).trans hx106_5
                  replace p106 := eq_true p106
                  replace q106 := eq_true q106
                  go_wp2_with (first | ((with_reducible refine gate_dst (N := 8) rfl ?_); refine box_event ?hg (N := 8) ?hd (cs := #[.string (⟨#[]⟩ : ByteArray), .int .u64 0, .int .u64 0, .int .u64 0, .int .u64 0, .string (⟨#[]⟩ : ByteArray)]) (t := 28) ?hr ?_; (case hd => rfl); (case hg => rfl); (case hr => first | (go_simp; done) | (go_simp; rfl)); intro gb107 hg w31 hbox hb; have n0_ := Aside0.mk (Kd.R_below (Kd.R_elderB (by (with_reducible repeat (first | apply Kd.R_alloc | apply Kd.R_drewN | apply Kd.R_drew)); exact HO_6.out) gb107 (Nat.le_of_eq hg.symm)) hb); have n1_ := Aside0.mk (below_step (by repeat (first | (with_reducible first | exact HB.out | apply below_alloc | apply pw_below_drewN | apply below_drew1) | exact HB.out)) hb); have n2_ := Aside0.mk (hbox); have n3_ := Aside0.mk ((by rw [hg]; exact (below_size (by repeat (first | (with_reducible first | exact HB.out | apply below_alloc | apply pw_below_drewN | apply below_drew1) | exact HB.out))) : w.heap.size ≤ gb107)); have n4_ := Aside0.mk ((by rw [hg]; exact (below_size (by repeat (first | (with_reducible first | exact HB.out | apply below_alloc | apply pw_below_drewN | apply below_drew1) | exact HB.out))) : w.heap.size ≤ gb107)); clear HO_6; clear HB; have HO_6 := n0_; have HB := n1_; have BK107 := n2_; have GW107 := n3_; have GE107 := n4_; clear n0_ n1_ n2_ n3_ n4_; clear hb hbox hg; have hcz32_0 : w31.cell? ⟨gb107, 0, none⟩ = some (.string (⟨#[]⟩ : ByteArray)) := (blk_cell BK107.out 0).trans rfl; have hcz32_1 : w31.cell? ⟨gb107, 1, none⟩ = some (.int .u64 0) := (blk_cell BK107.out 1).trans rfl; have hcz32_2 : w31.cell? ⟨gb107, 2, none⟩ = some (.int .u64 0) := (blk_cell BK107.out 2).trans rfl; have hcz32_3 : w31.cell? ⟨gb107, 3, none⟩ = some (.int .u64 0) := (blk_cell BK107.out 3).trans rfl; have hcz32_4 : w31.cell? ⟨gb107, 4, none⟩ = some (.int .u64 0) := (blk_cell BK107.out 4).trans rfl; have hcz32_5 : w31.cell? ⟨gb107, 5, none⟩ = some (.string (⟨#[]⟩ : ByteArray)) := (blk_cell BK107.out 5).trans rfl; have hfz32_0 := blk_frozen BK107.out 0; have hfz32_1 := blk_frozen BK107.out 1; have hfz32_2 := blk_frozen BK107.out 2; have hfz32_3 := blk_frozen BK107.out 3; have hfz32_4 := blk_frozen BK107.out 4; have hfz32_5 := blk_frozen BK107.out 5; obtain ⟨Ao33, co33, eo33⟩ := Kd.R_slice HO_6.out; subst eo33) | ((with_reducible refine gate_callee (f := 21) rfl ?_); refine goesL_ (some 21) rfl rfl Try.func21 (by kernel_rfl) rfl #[.slice Ao33 x6_1.length co33, .string ((rd_T28 l1 x14_1).f0)] rfl (by (try simp only [List.map_toArray, List.map_cons, List.map_nil]); first | done | rfl | (simp only [List.length_drop, List.length_take]; rfl)) ?_; (with_reducible refine (arlist_find.calls _ _ x6_1 ((rd_T28 l1 x14_1).f0) t108 _ ?side1 ?side2 A8.out).mono ?_); (case side1 => refine (Kd.R_reads' (e := 28) (base := w.heap.size) (ok := fun k_ => (True ∧ k_ ≠ gb107)) (n := x6_1.length) (c := co33) ?_).2.2; exact (by (with_reducible repeat (first | apply Kd.R_alloc | apply Kd.R_drewN | apply Kd.R_drew)); exact (Kd.R_mono (Kd.R_far (p := ⟨gb107, 5, none⟩) (Kd.R_far (p := ⟨gb107, 4, none⟩) (Kd.R_far (p := ⟨gb107, 3, none⟩) (Kd.R_far (p := ⟨gb107, 2, none⟩) (Kd.R_far (p := ⟨gb107, 1, none⟩) (Kd.R_far (p := ⟨gb107, 0, none⟩) (Kd.R_mono HO_6.out (fun k_ hk => (⟨hk, hk.2⟩ : _ ∧ k_ ≠ gb107))) (fun _ hk => hk.2) (.string ((rd_T28 l1 x14_1).f0))) (fun _ hk => hk.2) (.int .u64 ((rd_T28 l1 x14_1).f1))) (fun _ hk => hk.2) (.int .u64 ((rd_T28 l1 x14_1).f2))) (fun _ hk => hk.2) (.int .u64 ((rd_T28 l1 x14_1).f3))) (fun _ hk => hk.2) (.int .u64 ((rd_T28 l1 x14_1).f4))) (fun _ hk => hk.2) (.string ((rd_T28 l1 x14_1).f5))) (fun _ h_ => h_.1)))); (case side2 => exact (Kd.R_reads' HO_6.out).2.1); rintro e w34 ⟨rfl, hb⟩; refine ⟨_, rfl, ?_⟩; have n0_ := Aside0.mk (Kd.R_below (by (with_reducible repeat (first | apply Kd.R_alloc | apply Kd.R_drewN | apply Kd.R_drew)); exact (Kd.R_mono (Kd.R_far (p := ⟨gb107, 5, none⟩) (Kd.R_far (p := ⟨gb107, 4, none⟩) (Kd.R_far (p := ⟨gb107, 3, none⟩) (Kd.R_far (p := ⟨gb107, 2, none⟩) (Kd.R_far (p := ⟨gb107, 1, none⟩) (Kd.R_far (p := ⟨gb107, 0, none⟩) (Kd.R_mono HO_6.out (fun k_ hk => (⟨hk, hk.2⟩ : _ ∧ k_ ≠ gb107))) (fun _ hk => hk.2) (.string ((rd_T28 l1 x14_1).f0))) (fun _ hk => hk.2) (.int .u64 ((rd_T28 l1 x14_1).f1))) (fun _ hk => hk.2) (.int .u64 ((rd_T28 l1 x14_1).f2))) (fun _ hk => hk.2) (.int .u64 ((rd_T28 l1 x14_1).f3))) (fun _ hk => hk.2) (.int .u64 ((rd_T28 l1 x14_1).f4))) (fun _ hk => hk.2) (.string ((rd_T28 l1 x14_1).f5))) (fun _ h_ => h_.1))) hb); have n1_ := Aside0.mk (blk_below (g := gb107) (o := .cells #[.string ((rd_T28 l1 x14_1).f0), .int .u64 ((rd_T28 l1 x14_1).f1), .int .u64 ((rd_T28 l1 x14_1).f2), .int .u64 ((rd_T28 l1 x14_1).f3), .int .u64 ((rd_T28 l1 x14_1).f4), .string ((rd_T28 l1 x14_1).f5)] 28 (0, 0)) (by (with_reducible repeat (first | refine blk_drewN ?_ _ | refine blk_drew ?_ | refine blk_alloc ?_ _)); refine blk_put (cs := #[.string ((rd_T28 l1 x14_1).f0), .int .u64 ((rd_T28 l1 x14_1).f1), .int .u64 ((rd_T28 l1 x14_1).f2), .int .u64 ((rd_T28 l1 x14_1).f3), .int .u64 ((rd_T28 l1 x14_1).f4), .string (⟨#[]⟩ : ByteArray)]) ?_ 5 _ rfl; (with_reducible repeat (first | refine blk_drewN ?_ _ | refine blk_drew ?_ | refine blk_alloc ?_ _)); refine blk_put (cs := #[.string ((rd_T28 l1 x14_1).f0), .int .u64 ((rd_T28 l1 x14_1).f1), .int .u64 ((rd_T28 l1 x14_1).f2), .int .u64 ((rd_T28 l1 x14_1).f3), .int .u64 0, .string (⟨#[]⟩ : ByteArray)]) ?_ 4 _ rfl; (with_reducible repeat (first | refine blk_drewN ?_ _ | refine blk_drew ?_ | refine blk_alloc ?_ _)); refine blk_put (cs := #[.string ((rd_T28 l1 x14_1).f0), .int .u64 ((rd_T28 l1 x14_1).f1), .int .u64 ((rd_T28 l1 x14_1).f2), .int .u64 0, .int .u64 0, .string (⟨#[]⟩ : ByteArray)]) ?_ 3 _ rfl; (with_reducible repeat (first | refine blk_drewN ?_ _ | refine blk_drew ?_ | refine blk_alloc ?_ _)); refine blk_put (cs := #[.string ((rd_T28 l1 x14_1).f0), .int .u64 ((rd_T28 l1 x14_1).f1), .int .u64 0, .int .u64 0, .int .u64 0, .string (⟨#[]⟩ : ByteArray)]) ?_ 2 _ rfl; (with_reducible repeat (first | refine blk_drewN ?_ _ | refine blk_drew ?_ | refine blk_alloc ?_ _)); refine blk_put (cs := #[.string ((rd_T28 l1 x14_1).f0), .int .u64 0, .int .u64 0, .int .u64 0, .int .u64 0, .string (⟨#[]⟩ : ByteArray)]) ?_ 1 _ rfl; (with_reducible repeat (first | refine blk_drewN ?_ _ | refine blk_drew ?_ | refine blk_alloc ?_ _)); refine blk_put (cs := #[.string (⟨#[]⟩ : ByteArray), .int .u64 0, .int .u64 0, .int .u64 0, .int .u64 0, .string (⟨#[]⟩ : ByteArray)]) ?_ 0 _ rfl; (with_reducible repeat (first | refine blk_drewN ?_ _ | refine blk_drew ?_ | refine blk_alloc ?_ _)); exact BK107.out) hb); have n2_ := Aside0.mk (below_step (by repeat (first | (with_reducible first | exact HB.out | apply below_alloc | apply pw_below_drewN | apply below_drew1 | refine below_set ?_ GE107.out) | exact HB.out)) hb); clear HO_6; clear BK107; clear HB; have HO_6 := n0_; have BK107 := n1_; have HB := n2_; clear n0_ n1_ n2_; (try clear hb); (try clear hb2); (try clear hk); (try clear hi); have hcz35_0 : w34.cell? ⟨gb107, 0, none⟩ = some (.string ((rd_T28 l1 x14_1).f0)) := (blk_cell BK107.out 0).trans rfl; have hcz35_1 : w34.cell? ⟨gb107, 1, none⟩ = some (.int .u64 ((rd_T28 l1 x14_1).f1)) := (blk_cell BK107.out 1).trans rfl; have hcz35_2 : w34.cell? ⟨gb107, 2, none⟩ = some (.int .u64 ((rd_T28 l1 x14_1).f2)) := (blk_cell BK107.out 2).trans rfl; have hcz35_3 : w34.cell? ⟨gb107, 3, none⟩ = some (.int .u64 ((rd_T28 l1 x14_1).f3)) := (blk_cell BK107.out 3).trans rfl; have hcz35_4 : w34.cell? ⟨gb107, 4, none⟩ = some (.int .u64 ((rd_T28 l1 x14_1).f4)) := (blk_cell BK107.out 4).trans rfl; have hcz35_5 : w34.cell? ⟨gb107, 5, none⟩ = some (.string ((rd_T28 l1 x14_1).f5)) := (blk_cell BK107.out 5).trans rfl; have hfz35_0 := blk_frozen BK107.out 0; have hfz35_1 := blk_frozen BK107.out 1; have hfz35_2 := blk_frozen BK107.out 2; have hfz35_3 := blk_frozen BK107.out 3; have hfz35_4 := blk_frozen BK107.out 4; have hfz35_5 := blk_frozen BK107.out 5) | ((with_reducible refine gate_callee (f := 22) rfl ?_); refine goesL_ (some 28) rfl rfl Try.func22 (by kernel_rfl) rfl #[.agg #[.string ((rd_T28 l1 x14_1).f0), .int .u64 ((rd_T28 l1 x14_1).f1), .int .u64 ((rd_T28 l1 x14_1).f2), .int .u64 ((rd_T28 l1 x14_1).f3), .int .u64 ((rd_T28 l1 x14_1).f4), .string ((rd_T28 l1 x14_1).f5)]] rfl (by (try simp only [List.map_toArray, List.map_cons, List.map_nil]); first | done | rfl | (simp only [List.length_drop, List.length_take]; rfl)) ?_; (with_reducible refine (arlist_bad.calls ((rd_T28 l1 x14_1).f0) ((rd_T28 l1 x14_1).f1) ((rd_T28 l1 x14_1).f2) ((rd_T28 l1 x14_1).f3) ((rd_T28 l1 x14_1).f4) ((rd_T28 l1 x14_1).f5) false _ A9.out).mono ?_); rintro e w36 ⟨rfl, hb⟩; refine ⟨_, rfl, ?_⟩; have n0_ := Aside0.mk (Kd.R_below (by (with_reducible repeat (first | apply Kd.R_alloc | apply Kd.R_drewN | apply Kd.R_drew)); exact HO_6.out) hb); have n1_ := Aside0.mk (blk_below (g := gb107) (o := .cells #[.string ((rd_T28 l1 x14_1).f0), .int .u64 ((rd_T28 l1 x14_1).f1), .int .u64 ((rd_T28 l1 x14_1).f2), .int .u64 ((rd_T28 l1 x14_1).f3), .int .u64 ((rd_T28 l1 x14_1).f4), .string ((rd_T28 l1 x14_1).f5)] 28 (0, 0)) (by (with_reducible repeat (first | refine blk_drewN ?_ _ | refine blk_drew ?_ | refine blk_alloc ?_ _)); exact BK107.out) hb); have n2_ := Aside0.mk (below_step (by repeat (first | (with_reducible first | exact HB.out | apply below_alloc | apply pw_below_drewN | apply below_drew1 | refine below_set ?_ GE107.out) | exact HB.out)) hb); clear HO_6; clear BK107; clear HB; have HO_6 := n0_; have BK107 := n1_; have HB := n2_; clear n0_ n1_ n2_; (try clear hb); (try clear hb2); (try clear hk); (try clear hi)))
                  go_ret2
                  exact ⟨_, by first | rfl | (simp [errW_none, errW_some] <;> rfl) | (simp [*, errW_none, errW_some] <;> rfl), by first | exact Kd.R_nil _ _ _ _ _ | exact Kd.N_nil _ _ _ _ _ | exact Kd.V_nil _ _ _ _ _ | exact Kd.Q_nil _ _ _ _ _ | exact Kd.S_nil _ _ _ _ _, by repeat (first | (with_reducible first | exact HB.out | apply below_alloc | apply pw_below_drewN | apply below_drew1 | refine below_set ?_ GE107.out) | exact HB.out)⟩
                · rw [if_neg c30] at H
                  have c30b0 : decide (1024 ≤ (x6_1.length : Int)) = false := decide_eq_false c30
                  have c30b1 : decide (1024 ≤ x6_1.length) = false := decide_eq_false (by omega)
                  clear c30
                  by_cases c37 : x6_1.length < 2199023255552
                  · rw [if_pos c37] at H
                    have LMc37 := Aside0.mk c37
                    clear c37
                    obtain ⟨y111, hy111⟩ : ∃ y_ : List (S28), y_ = (x6_1 ++ [(⟨(rd_T28 l1 x14_1).f0, (rd_T28 l1 x14_1).f1, (rd_T28 l1 x14_1).f2, (rd_T28 l1 x14_1).f3, (rd_T28 l1 x14_1).f4, (rd_T28 l1 x14_1).f5⟩ : S28)]) := ⟨_, rfl⟩
                    replace H : (arlist_Replace.l0 k1 y111 l1 (l1.length : Int) (wrap64 (x14_1 + 1))) = some (r1, r2) := by first | (rw [hy111]; with_reducible exact H) | (have H2_ := (Option.bind_some _ _).symm.trans H; rw [hy111]; with_reducible exact H2_) | (have H2_ := (Option.bind_some _ _).symm.trans H; with_reducible exact H2_) | with_reducible exact H | (rw [hy111]; exact H) | exact H
                    have Ny111 := Aside0.mk hy111
                    clear hy111
                    have H' := Aside0.mk H
                    clear H
                    have p106 : 0 ≤ (x14_1 : Int) := of_decide_eq_true (by first | (with_reducible assumption) | assumption)
                    have q106 : x14_1 < (l1.length : Int) := of_decide_eq_true (by first | (with_reducible assumption) | assumption)
                    obtain ⟨ad106, e106, hx106_0, hx106_1, hx106_2, hx106_3, hx106_4, hx106_5⟩ := at_T28 HR1.out x14_1 p106 q106
                    cases e106
                    replace hx106_0 := (HB.out.cell (World.block_lt_of_cell? w _ hx106_0)).trans hx106_0
                    replace hx106_1 := (HB.out.cell (World.block_lt_of_cell? w _ hx106_1)).trans hx106_1
                    replace hx106_2 := (HB.out.cell (World.block_lt_of_cell? w _ hx106_2)).trans hx106_2
                    replace hx106_3 := (HB.out.cell (World.block_lt_of_cell? w _ hx106_3)).trans hx106_3
                    replace hx106_4 := (HB.out.cell (World.block_lt_of_cell? w _ hx106_4)).trans hx106_4
                    replace hx106_5 := (HB.out.cell (World.block_lt_of_cell? w _ hx106_5)).trans hx106_5
                    replace p106 := eq_true p106
                    replace q106 := eq_true q106
                    go_wp2_with (first | ((with_reducible refine gate_dst (N := 8) rfl ?_); refine box_event ?hg (N := 8) ?hd (cs := #[.string (⟨#[]⟩ : ByteArray), .int .u64 0, .int .u64 0, .int .u64 0, .int .u64 0, .string (⟨#[]⟩ : ByteArray)]) (t := 28) ?hr ?_; (case hd => rfl); (case hg => rfl); (case hr => first | (go_simp; done) | (go_simp; rfl)); intro gb107 hg w38 hbox hb; have n0_ := Aside0.mk (Kd.R_below (Kd.R_elderB (by (with_reducible repeat (first | apply Kd.R_alloc | apply Kd.R_drewN | apply Kd.R_drew)); exact HO_6.out) gb107 (Nat.le_of_eq hg.symm)) hb); have n1_ := Aside0.mk (below_step (by repeat (first | (with_reducible first | exact HB.out | apply below_alloc | apply pw_below_drewN | apply below_drew1) | exact HB.out)) hb); have n2_ := Aside0.mk (hbox); have n3_ := Aside0.mk ((by rw [hg]; exact (below_size (by repeat (first | (with_reducible first | exact HB.out | apply below_alloc | apply pw_below_drewN | apply below_drew1) | exact HB.out))) : w.heap.size ≤ gb107)); have n4_ := Aside0.mk ((by rw [hg]; exact (below_size (by repeat (first | (with_reducible first | exact HB.out | apply below_alloc | apply pw_below_drewN | apply below_drew1) | exact HB.out))) : w.heap.size ≤ gb107)); clear HO_6; clear HB; have HO_6 := n0_; have HB := n1_; have BK107 := n2_; have GW107 := n3_; have GE107 := n4_; clear n0_ n1_ n2_ n3_ n4_; clear hb hbox hg; have hcz39_0 : w38.cell? ⟨gb107, 0, none⟩ = some (.string (⟨#[]⟩ : ByteArray)) := (blk_cell BK107.out 0).trans rfl; have hcz39_1 : w38.cell? ⟨gb107, 1, none⟩ = some (.int .u64 0) := (blk_cell BK107.out 1).trans rfl; have hcz39_2 : w38.cell? ⟨gb107, 2, none⟩ = some (.int .u64 0) := (blk_cell BK107.out 2).trans rfl; have hcz39_3 : w38.cell? ⟨gb107, 3, none⟩ = some (.int .u64 0) := (blk_cell BK107.out 3).trans rfl; have hcz39_4 : w38.cell? ⟨gb107, 4, none⟩ = some (.int .u64 0) := (blk_cell BK107.out 4).trans rfl; have hcz39_5 : w38.cell? ⟨gb107, 5, none⟩ = some (.string (⟨#[]⟩ : ByteArray)) := (blk_cell BK107.out 5).trans rfl; have hfz39_0 := blk_frozen BK107.out 0; have hfz39_1 := blk_frozen BK107.out 1; have hfz39_2 := blk_frozen BK107.out 2; have hfz39_3 := blk_frozen BK107.out 3; have hfz39_4 := blk_frozen BK107.out 4; have hfz39_5 := blk_frozen BK107.out 5; obtain ⟨Ao40, co40, eo40⟩ := Kd.R_slice HO_6.out; subst eo40) | ((with_reducible refine gate_callee (f := 21) rfl ?_); refine goesL_ (some 21) rfl rfl Try.func21 (by kernel_rfl) rfl #[.slice Ao40 x6_1.length co40, .string ((rd_T28 l1 x14_1).f0)] rfl (by (try simp only [List.map_toArray, List.map_cons, List.map_nil]); first | done | rfl | (simp only [List.length_drop, List.length_take]; rfl)) ?_; (with_reducible refine (arlist_find.calls _ _ x6_1 ((rd_T28 l1 x14_1).f0) t108 _ ?side1 ?side2 A8.out).mono ?_); (case side1 => refine (Kd.R_reads' (e := 28) (base := w.heap.size) (ok := fun k_ => (True ∧ k_ ≠ gb107)) (n := x6_1.length) (c := co40) ?_).2.2; exact (by (with_reducible repeat (first | apply Kd.R_alloc | apply Kd.R_drewN | apply Kd.R_drew)); exact (Kd.R_mono (Kd.R_far (p := ⟨gb107, 5, none⟩) (Kd.R_far (p := ⟨gb107, 4, none⟩) (Kd.R_far (p := ⟨gb107, 3, none⟩) (Kd.R_far (p := ⟨gb107, 2, none⟩) (Kd.R_far (p := ⟨gb107, 1, none⟩) (Kd.R_far (p := ⟨gb107, 0, none⟩) (Kd.R_mono HO_6.out (fun k_ hk => (⟨hk, hk.2⟩ : _ ∧ k_ ≠ gb107))) (fun _ hk => hk.2) (.string ((rd_T28 l1 x14_1).f0))) (fun _ hk => hk.2) (.int .u64 ((rd_T28 l1 x14_1).f1))) (fun _ hk => hk.2) (.int .u64 ((rd_T28 l1 x14_1).f2))) (fun _ hk => hk.2) (.int .u64 ((rd_T28 l1 x14_1).f3))) (fun _ hk => hk.2) (.int .u64 ((rd_T28 l1 x14_1).f4))) (fun _ hk => hk.2) (.string ((rd_T28 l1 x14_1).f5))) (fun _ h_ => h_.1)))); (case side2 => exact (Kd.R_reads' HO_6.out).2.1); rintro e w41 ⟨rfl, hb⟩; refine ⟨_, rfl, ?_⟩; have n0_ := Aside0.mk (Kd.R_below (by (with_reducible repeat (first | apply Kd.R_alloc | apply Kd.R_drewN | apply Kd.R_drew)); exact (Kd.R_mono (Kd.R_far (p := ⟨gb107, 5, none⟩) (Kd.R_far (p := ⟨gb107, 4, none⟩) (Kd.R_far (p := ⟨gb107, 3, none⟩) (Kd.R_far (p := ⟨gb107, 2, none⟩) (Kd.R_far (p := ⟨gb107, 1, none⟩) (Kd.R_far (p := ⟨gb107, 0, none⟩) (Kd.R_mono HO_6.out (fun k_ hk => (⟨hk, hk.2⟩ : _ ∧ k_ ≠ gb107))) (fun _ hk => hk.2) (.string ((rd_T28 l1 x14_1).f0))) (fun _ hk => hk.2) (.int .u64 ((rd_T28 l1 x14_1).f1))) (fun _ hk => hk.2) (.int .u64 ((rd_T28 l1 x14_1).f2))) (fun _ hk => hk.2) (.int .u64 ((rd_T28 l1 x14_1).f3))) (fun _ hk => hk.2) (.int .u64 ((rd_T28 l1 x14_1).f4))) (fun _ hk => hk.2) (.string ((rd_T28 l1 x14_1).f5))) (fun _ h_ => h_.1))) hb); have n1_ := Aside0.mk (blk_below (g := gb107) (o := .cells #[.string ((rd_T28 l1 x14_1).f0), .int .u64 ((rd_T28 l1 x14_1).f1), .int .u64 ((rd_T28 l1 x14_1).f2), .int .u64 ((rd_T28 l1 x14_1).f3), .int .u64 ((rd_T28 l1 x14_1).f4), .string ((rd_T28 l1 x14_1).f5)] 28 (0, 0)) (by (with_reducible repeat (first | refine blk_drewN ?_ _ | refine blk_drew ?_ | refine blk_alloc ?_ _)); refine blk_put (cs := #[.string ((rd_T28 l1 x14_1).f0), .int .u64 ((rd_T28 l1 x14_1).f1), .int .u64 ((rd_T28 l1 x14_1).f2), .int .u64 ((rd_T28 l1 x14_1).f3), .int .u64 ((rd_T28 l1 x14_1).f4), .string (⟨#[]⟩ : ByteArray)]) ?_ 5 _ rfl; (with_reducible repeat (first | refine blk_drewN ?_ _ | refine blk_drew ?_ | refine blk_alloc ?_ _)); refine blk_put (cs := #[.string ((rd_T28 l1 x14_1).f0), .int .u64 ((rd_T28 l1 x14_1).f1), .int .u64 ((rd_T28 l1 x14_1).f2), .int .u64 ((rd_T28 l1 x14_1).f3), .int .u64 0, .string (⟨#[]⟩ : ByteArray)]) ?_ 4 _ rfl; (with_reducible repeat (first | refine blk_drewN ?_ _ | refine blk_drew ?_ | refine blk_alloc ?_ _)); refine blk_put (cs := #[.string ((rd_T28 l1 x14_1).f0), .int .u64 ((rd_T28 l1 x14_1).f1), .int .u64 ((rd_T28 l1 x14_1).f2), .int .u64 0, .int .u64 0, .string (⟨#[]⟩ : ByteArray)]) ?_ 3 _ rfl; (with_reducible repeat (first | refine blk_drewN ?_ _ | refine blk_drew ?_ | refine blk_alloc ?_ _)); refine blk_put (cs := #[.string ((rd_T28 l1 x14_1).f0), .int .u64 ((rd_T28 l1 x14_1).f1), .int .u64 0, .int .u64 0, .int .u64 0, .string (⟨#[]⟩ : ByteArray)]) ?_ 2 _ rfl; (with_reducible repeat (first | refine blk_drewN ?_ _ | refine blk_drew ?_ | refine blk_alloc ?_ _)); refine blk_put (cs := #[.string ((rd_T28 l1 x14_1).f0), .int .u64 0, .int .u64 0, .int .u64 0, .int .u64 0, .string (⟨#[]⟩ : ByteArray)]) ?_ 1 _ rfl; (with_reducible repeat (first | refine blk_drewN ?_ _ | refine blk_drew ?_ | refine blk_alloc ?_ _)); refine blk_put (cs := #[.string (⟨#[]⟩ : ByteArray), .int .u64 0, .int .u64 0, .int .u64 0, .int .u64 0, .string (⟨#[]⟩ : ByteArray)]) ?_ 0 _ rfl; (with_reducible repeat (first | refine blk_drewN ?_ _ | refine blk_drew ?_ | refine blk_alloc ?_ _)); exact BK107.out) hb); have n2_ := Aside0.mk (below_step (by repeat (first | (with_reducible first | exact HB.out | apply below_alloc | apply pw_below_drewN | apply below_drew1 | refine below_set ?_ GE107.out) | exact HB.out)) hb); clear HO_6; clear BK107; clear HB; have HO_6 := n0_; have BK107 := n1_; have HB := n2_; clear n0_ n1_ n2_; (try clear hb); (try clear hb2); (try clear hk); (try clear hi); have hcz42_0 : w41.cell? ⟨gb107, 0, none⟩ = some (.string ((rd_T28 l1 x14_1).f0)) := (blk_cell BK107.out 0).trans rfl; have hcz42_1 : w41.cell? ⟨gb107, 1, none⟩ = some (.int .u64 ((rd_T28 l1 x14_1).f1)) := (blk_cell BK107.out 1).trans rfl; have hcz42_2 : w41.cell? ⟨gb107, 2, none⟩ = some (.int .u64 ((rd_T28 l1 x14_1).f2)) := (blk_cell BK107.out 2).trans rfl; have hcz42_3 : w41.cell? ⟨gb107, 3, none⟩ = some (.int .u64 ((rd_T28 l1 x14_1).f3)) := (blk_cell BK107.out 3).trans rfl; have hcz42_4 : w41.cell? ⟨gb107, 4, none⟩ = some (.int .u64 ((rd_T28 l1 x14_1).f4)) := (blk_cell BK107.out 4).trans rfl; have hcz42_5 : w41.cell? ⟨gb107, 5, none⟩ = some (.string ((rd_T28 l1 x14_1).f5)) := (blk_cell BK107.out 5).trans rfl; have hfz42_0 := blk_frozen BK107.out 0; have hfz42_1 := blk_frozen BK107.out 1; have hfz42_2 := blk_frozen BK107.out 2; have hfz42_3 := blk_frozen BK107.out 3; have hfz42_4 := blk_frozen BK107.out 4; have hfz42_5 := blk_frozen BK107.out 5) | ((with_reducible refine gate_callee (f := 22) rfl ?_); refine goesL_ (some 28) rfl rfl Try.func22 (by kernel_rfl) rfl #[.agg #[.string ((rd_T28 l1 x14_1).f0), .int .u64 ((rd_T28 l1 x14_1).f1), .int .u64 ((rd_T28 l1 x14_1).f2), .int .u64 ((rd_T28 l1 x14_1).f3), .int .u64 ((rd_T28 l1 x14_1).f4), .string ((rd_T28 l1 x14_1).f5)]] rfl (by (try simp only [List.map_toArray, List.map_cons, List.map_nil]); first | done | rfl | (simp only [List.length_drop, List.length_take]; rfl)) ?_; (with_reducible refine (arlist_bad.calls ((rd_T28 l1 x14_1).f0) ((rd_T28 l1 x14_1).f1) ((rd_T28 l1 x14_1).f2) ((rd_T28 l1 x14_1).f3) ((rd_T28 l1 x14_1).f4) ((rd_T28 l1 x14_1).f5) false _ A9.out).mono ?_); rintro e w43 ⟨rfl, hb⟩; refine ⟨_, rfl, ?_⟩; have n0_ := Aside0.mk (Kd.R_below (by (with_reducible repeat (first | apply Kd.R_alloc | apply Kd.R_drewN | apply Kd.R_drew)); exact HO_6.out) hb); have n1_ := Aside0.mk (blk_below (g := gb107) (o := .cells #[.string ((rd_T28 l1 x14_1).f0), .int .u64 ((rd_T28 l1 x14_1).f1), .int .u64 ((rd_T28 l1 x14_1).f2), .int .u64 ((rd_T28 l1 x14_1).f3), .int .u64 ((rd_T28 l1 x14_1).f4), .string ((rd_T28 l1 x14_1).f5)] 28 (0, 0)) (by (with_reducible repeat (first | refine blk_drewN ?_ _ | refine blk_drew ?_ | refine blk_alloc ?_ _)); exact BK107.out) hb); have n2_ := Aside0.mk (below_step (by repeat (first | (with_reducible first | exact HB.out | apply below_alloc | apply pw_below_drewN | apply below_drew1 | refine below_set ?_ GE107.out) | exact HB.out)) hb); clear HO_6; clear BK107; clear HB; have HO_6 := n0_; have BK107 := n1_; have HB := n2_; clear n0_ n1_ n2_; (try clear hb); (try clear hb2); (try clear hk); (try clear hi); have hcz44_0 : w43.cell? ⟨gb107, 0, none⟩ = some (.string ((rd_T28 l1 x14_1).f0)) := (blk_cell BK107.out 0).trans rfl; have hcz44_1 : w43.cell? ⟨gb107, 1, none⟩ = some (.int .u64 ((rd_T28 l1 x14_1).f1)) := (blk_cell BK107.out 1).trans rfl; have hcz44_2 : w43.cell? ⟨gb107, 2, none⟩ = some (.int .u64 ((rd_T28 l1 x14_1).f2)) := (blk_cell BK107.out 2).trans rfl; have hcz44_3 : w43.cell? ⟨gb107, 3, none⟩ = some (.int .u64 ((rd_T28 l1 x14_1).f3)) := (blk_cell BK107.out 3).trans rfl; have hcz44_4 : w43.cell? ⟨gb107, 4, none⟩ = some (.int .u64 ((rd_T28 l1 x14_1).f4)) := (blk_cell BK107.out 4).trans rfl; have hcz44_5 : w43.cell? ⟨gb107, 5, none⟩ = some (.string ((rd_T28 l1 x14_1).f5)) := (blk_cell BK107.out 5).trans rfl; have hfz44_0 := blk_frozen BK107.out 0; have hfz44_1 := blk_frozen BK107.out 1; have hfz44_2 := blk_frozen BK107.out 2; have hfz44_3 := blk_frozen BK107.out 3; have hfz44_4 := blk_frozen BK107.out 4; have hfz44_5 := blk_frozen BK107.out 5) | ((with_reducible refine gate_builtin (b := .append) (xs := #[.tmp 22, .tmp 24]) rfl ?_); at_builtin; refine Kd.R_append k28 (w0 := w) w.heap.size rfl (.tmp 22) (.tmp 24) 24 28 (.agg #[(.string ⟨#[]⟩), (.int .u64 0), (.int .u64 0), (.int .u64 0), (.int .u64 0), (.string ⟨#[]⟩)]) 64 rfl Try.underlying24 info28 rfl (by decide) (by omega) (.slice Ao40 x6_1.length co40) x6_1 (⟨(rd_T28 l1 x14_1).f0, (rd_T28 l1 x14_1).f1, (rd_T28 l1 x14_1).f2, (rd_T28 l1 x14_1).f3, (rd_T28 l1 x14_1).f4, (rd_T28 l1 x14_1).f5⟩ : S28) [.string ((rd_T28 l1 x14_1).f0), .int .u64 ((rd_T28 l1 x14_1).f1), .int .u64 ((rd_T28 l1 x14_1).f2), .int .u64 ((rd_T28 l1 x14_1).f3), .int .u64 ((rd_T28 l1 x14_1).f4), .string ((rd_T28 l1 x14_1).f5)] (fun k_ => k_ ≠ gb107) (fun _ => False) rfl rfl ?aP (fun _ hk => hk.elim) ?aF ?aO ?aB ?aS ?aL ?_; (case aP => exact k28_mkM _ _ _ (⟨(rd_T28 l1 x14_1).f0, (rd_T28 l1 x14_1).f1, (rd_T28 l1 x14_1).f2, (rd_T28 l1 x14_1).f3, (rd_T28 l1 x14_1).f4, (rd_T28 l1 x14_1).f5⟩ : S28)); (case aB => exact (by repeat (first | (with_reducible first | exact HB.out | apply below_alloc | apply pw_below_drewN | apply below_drew1 | refine below_set ?_ GE107.out) | exact HB.out))); (case aF => exact (fun k_ hk => Kd.freshB (g := gb107) (o := .cells #[.string ((rd_T28 l1 x14_1).f0), .int .u64 ((rd_T28 l1 x14_1).f1), .int .u64 ((rd_T28 l1 x14_1).f2), .int .u64 ((rd_T28 l1 x14_1).f3), .int .u64 ((rd_T28 l1 x14_1).f4), .string ((rd_T28 l1 x14_1).f5)] 28 (0, 0)) (by (with_reducible repeat (first | refine blk_drewN ?_ _ | refine blk_drew ?_ | refine blk_alloc ?_ _)); exact BK107.out) k_ hk)); (case aO => exact (by (with_reducible repeat (first | apply Kd.R_alloc | apply Kd.R_drewN | apply Kd.R_drew)); exact Kd.R_mono HO_6.out (fun _ hk => hk.2))); (case aS => exact (below_size (by repeat (first | (with_reducible first | exact HB.out | apply below_alloc | apply pw_below_drewN | apply below_drew1 | refine below_set ?_ GE107.out) | exact HB.out)))); (case aL => have := LMc37.out; omega); intro v112 w45 ho hb hg hat; rw [← Ny111.out] at ho; have n0_ := Aside0.mk (blk_grown (g := gb107) (o := .cells #[.string ((rd_T28 l1 x14_1).f0), .int .u64 ((rd_T28 l1 x14_1).f1), .int .u64 ((rd_T28 l1 x14_1).f2), .int .u64 ((rd_T28 l1 x14_1).f3), .int .u64 ((rd_T28 l1 x14_1).f4), .string ((rd_T28 l1 x14_1).f5)] 28 (0, 0)) (by (with_reducible repeat (first | refine blk_drewN ?_ _ | refine blk_drew ?_ | refine blk_alloc ?_ _)); exact BK107.out) hg (Kd.R_away HO_6.out (fun _ hk => hk.2))); have n1_ := Aside0.mk (hb); have n2_ := Aside0.mk (ho); clear BK107; clear HB; clear HO_6; have BK107 := n0_; have HB := n1_; have HO113 := n2_; clear n0_ n1_ n2_; clear ho hb hg hat))
                    go_roundg k1
                    case measure => have := HK1.out; omega
                    case rel => exact ⟨(y111), (wrap64 (x14_1 + 1)), (by first | rfl | (simp; done) | (simp [*]; done)), H', ⟨by have := HK1.out; omega⟩, ⟨by (with_reducible repeat (first | apply Kd.R_alloc | apply Kd.R_drewN | apply Kd.R_drew)); exact Kd.R_mono HO113.out (fun _ hk => trivial)⟩, ⟨by repeat (first | (with_reducible first | exact HB.out | apply below_alloc | apply pw_below_drewN | apply below_drew1 | refine below_set ?_ GE107.out) | exact HB.out)⟩⟩
                  · rw [if_neg c37] at H
                    exact absurd H (by simp)
          · rw [if_neg c7] at H
            exact absurd H (by simp)
        · rw [if_neg c6] at H
          exact absurd H (by simp)
      · rw [if_neg c5] at H
        have c5b0 : decide (x14_1 < (l1.length : Int)) = false := decide_eq_false c5
        clear c5
        simp only [Option.some.injEq, Prod.mk.injEq] at H
        obtain ⟨rfl, rfl⟩ := H
        go_wp2
        go_ret2
        exact ⟨_, by first | rfl | (simp [errW_none, errW_some] <;> rfl) | (simp [*, errW_none, errW_some] <;> rfl), by (with_reducible repeat (first | apply Kd.R_alloc | apply Kd.R_drewN | apply Kd.R_drew)); exact HO_6.out, by repeat (first | (with_reducible first | exact HB.out | apply below_alloc | apply pw_below_drewN | apply below_drew1) | exact HB.out)⟩

section
open Go.Proofs.Ytienjagoplcimaa
/-! ### arlist_Insert: function 11 (given) -/
def arlist_Insert.f (l0 : List (S28)) (a1 : Int) (l2 : List (S28)) : Option ((List (S28)) × Int) := if l0.length ≤ 1000000 ∧ 0 < l2.length ∧ l2.length ≤ 1000000 ∧ (l2.all fun e => decide (0 < e.f0.size ∧ e.f0.size ≤ 255 ∧ (e.f0.data.toList.all fun b => decide (b.toNat < 128)) = true ∧ Lib.containsAny e.f0.data.toList [47, 10, 0] = false)) = true then some ((insertR (l0.map toM) a1 (l2.map toM)).1.map ofM, (insertR (l0.map toM) a1 (l2.map toM)).2) else none
theorem arlist_Insert.calls (A0 : Option Addr) (c0 : Nat) (l0 : List (S28)) (a1 : Int) (A2 : Option Addr) (c2 : Nat) (l2 : List (S28)) (r1 : List (S28)) (r2 : Int) (w : World) (hr0 : Kd.C k28 w A0 l0.length l0) (hc0 : l0.length ≤ c0) (hr2 : Kd.C k28 w A2 l2.length l2) (hc2 : l2.length ≤ c2) (h : arlist_Insert.f l0 a1 l2 = some (r1, r2)) :
    Calls Try.prog 11 #[.slice A0 l0.length c0, .int .i64 a1, .slice A2 l2.length c2] w fun e w' => ∃ v0_ : Value, e = .returned (.tuple #[v0_, .int .i64 r2]) ∧ Kd.R k28 28 w' w.heap.size (fun _ => True) v0_ r1 ∧ Below w.heap.size w w' := by
  unfold arlist_Insert.f at h
  split at h
  · rename_i hc
    obtain ⟨hl, hm0, hml, ha⟩ := hc
    have hg : ∀ m ∈ l2.map toM, goodNm m.n := by
      intro m hm
      obtain ⟨x, hx, rfl⟩ := List.mem_map.1 hm
      have h2 := of_decide_eq_true (List.all_eq_true.1 ha x hx)
      exact ⟨h2.1, h2.2.1, fun j b hj => of_decide_eq_true (List.all_eq_true.1 h2.2.2.1 b (List.mem_of_getElem? hj)), h2.2.2.2⟩
    injection h with h
    injection h with h1 h2
    subst h1; subst h2
    have hm := insert_m (l0.map toM) (by rw [List.length_map]; exact hl) a1 (l2.map toM) (by rw [List.length_map]; exact hm0) (by rw [List.length_map]; exact hml) hg A0 c0 (by rw [List.length_map]; exact hc0) A2 c2 w (rd_M hr0) (rd_M hr2)
    rw [List.length_map, List.length_map] at hm
    refine hm.mono ?_
    rintro e w' ⟨⟨v, he, ho⟩, hb⟩
    exact ⟨v, he, R_M ho, hb⟩
  · cases h
end

/-! ### graverlaw23_ArlistMany: function 5 -/
def graverlaw23_ArlistMany.j0 : Nat → Int → Int → Int → Int → Int → Option (Bool)
  | 0, _, _, _, _, _ => none
  | k + 1, x0, x5, x7, x8, x9 => if (wrap64 (x0 + 1)) > 1024 then (if x5 = x8 then (some (x7 == 10)) else (some false)) else (if x5 = x8 then (some (x7 == x9)) else (some false))
def graverlaw23_ArlistMany.f (k : Nat) (a0 : Int) : Option (Bool) := (graverlaw23_speaks.f).bind fun t114 => (if t114 = true then (if 0 ≤ (wrap64 (1020 + (Go.bits .and .i64 a0 7))) then (if (wrap64 (1020 + (Go.bits .and .i64 a0 7)) : Int).toNat ≤ 4398046511104 then ((some (List.replicate (wrap64 (1020 + (Go.bits .and .i64 a0 7)) : Int).toNat z28 : List (S28))).bind fun y115 => ((arlist_Insert.f y115 0 (([(⟨(⟨#[97]⟩ : ByteArray), 0, 0, 0, 0, (⟨#[]⟩ : ByteArray)⟩ : S28), (⟨(⟨#[98]⟩ : ByteArray), 0, 0, 0, 0, (⟨#[]⟩ : ByteArray)⟩ : S28)] : List (S28)))).bind fun bt121 => ((arlist_Replace.f k y115 (([(⟨(⟨#[97]⟩ : ByteArray), 0, 0, 0, 0, (⟨#[]⟩ : ByteArray)⟩ : S28)] : List (S28)))).bind fun bt128 => (if (wrap64 ((wrap64 (1020 + (Go.bits .and .i64 a0 7))) + 2)) > 1024 then (graverlaw23_ArlistMany.j0 k (wrap64 (1020 + (Go.bits .and .i64 a0 7))) bt121.2 bt128.2 10 0) else (graverlaw23_ArlistMany.j0 k (wrap64 (1020 + (Go.bits .and .i64 a0 7))) bt121.2 bt128.2 0 0))))) else (none)) else (none)) else (some false))
theorem graverlaw23_ArlistMany.mono_l : ∀ k, (∀ y0 y1 y2 y3 y4, LeO (graverlaw23_ArlistMany.j0 k y0 y1 y2 y3 y4) (graverlaw23_ArlistMany.j0 (k + 1) y0 y1 y2 y3 y4))
  | 0 => fun _ _ _ _ _ r h => by simp [graverlaw23_ArlistMany.j0] at h
  | k + 1 => by
    have ih0 := graverlaw23_ArlistMany.mono_l k
    · intro y0 y1 y2 y3 y4
      unfold graverlaw23_ArlistMany.j0
      repeat' first
      | (with_reducible exact ih0 _ _ _ _ _)
      | (with_reducible exact arlist_Replace.mono _ _ _)
      | (with_reducible exact LeO.refl _)
      | (with_reducible exact LeO.none _)
      | (with_reducible refine LeO.ite ?_ ?_)
      | (with_reducible refine LeO.bind ?_ (fun _ => ?_))
      | exact ih0 _ _ _ _ _
      | exact arlist_Replace.mono _ _ _
      | exact LeO.none _
      | refine LeO.ite ?_ ?_
      | refine LeO.bind ?_ (fun _ => ?_)
theorem graverlaw23_ArlistMany.mono : ∀ a0 k, LeO (graverlaw23_ArlistMany.f k a0) (graverlaw23_ArlistMany.f (k + 1) a0) := by
  intro a0 k
  have ih0 := graverlaw23_ArlistMany.mono_l k
  unfold graverlaw23_ArlistMany.f
  repeat' first
      | (with_reducible exact ih0 _ _ _ _ _)
      | (with_reducible exact arlist_Replace.mono _ _ _)
      | (with_reducible exact LeO.refl _)
      | (with_reducible exact LeO.none _)
      | (with_reducible refine LeO.ite ?_ ?_)
      | (with_reducible refine LeO.bind ?_ (fun _ => ?_))
      | exact ih0 _ _ _ _ _
      | exact arlist_Replace.mono _ _ _
      | exact LeO.none _
      | refine LeO.ite ?_ ?_
      | refine LeO.bind ?_ (fun _ => ?_)
set_option maxHeartbeats 8000000 in
set_option maxRecDepth 100000 in
theorem graverlaw23_ArlistMany.calls (k : Nat) (a0 : Int) (r : Bool) (w : World) (h : graverlaw23_ArlistMany.f k a0 = some r) :
    Calls Try.prog 5 #[.int .i64 a0] w fun e w' => e = .returned (.bool r) ∧ Below w.heap.size w w' := by
  have hu28 := Try.underlying28
  have HB := Aside0.mk (Below.refl w.heap.size w)
  have H : ((graverlaw23_speaks.f).bind fun t114 => (if t114 = true then (if 0 ≤ (wrap64 (1020 + (Go.bits .and .i64 a0 7))) then (if (wrap64 (1020 + (Go.bits .and .i64 a0 7)) : Int).toNat ≤ 4398046511104 then ((some (List.replicate (wrap64 (1020 + (Go.bits .and .i64 a0 7)) : Int).toNat z28 : List (S28))).bind fun y115 => ((arlist_Insert.f y115 0 (([(⟨(⟨#[97]⟩ : ByteArray), 0, 0, 0, 0, (⟨#[]⟩ : ByteArray)⟩ : S28), (⟨(⟨#[98]⟩ : ByteArray), 0, 0, 0, 0, (⟨#[]⟩ : ByteArray)⟩ : S28)] : List (S28)))).bind fun bt121 => ((arlist_Replace.f k y115 (([(⟨(⟨#[97]⟩ : ByteArray), 0, 0, 0, 0, (⟨#[]⟩ : ByteArray)⟩ : S28)] : List (S28)))).bind fun bt128 => (if (wrap64 ((wrap64 (1020 + (Go.bits .and .i64 a0 7))) + 2)) > 1024 then (graverlaw23_ArlistMany.j0 k (wrap64 (1020 + (Go.bits .and .i64 a0 7))) bt121.2 bt128.2 10 0) else (graverlaw23_ArlistMany.j0 k (wrap64 (1020 + (Go.bits .and .i64 a0 7))) bt121.2 bt128.2 0 0))))) else (none)) else (none)) else (some false))) = some r := h
  clear h
  replace H := Option.bind_eq_some_iff.mp H
  obtain ⟨t114, A20, H⟩ := H
  replace H : (if t114 = true then (if 0 ≤ (wrap64 (1020 + (Go.bits .and .i64 a0 7))) then (if (wrap64 (1020 + (Go.bits .and .i64 a0 7)) : Int).toNat ≤ 4398046511104 then ((some (List.replicate (wrap64 (1020 + (Go.bits .and .i64 a0 7)) : Int).toNat z28 : List (S28))).bind fun y115 => ((arlist_Insert.f y115 0 (([(⟨(⟨#[97]⟩ : ByteArray), 0, 0, 0, 0, (⟨#[]⟩ : ByteArray)⟩ : S28), (⟨(⟨#[98]⟩ : ByteArray), 0, 0, 0, 0, (⟨#[]⟩ : ByteArray)⟩ : S28)] : List (S28)))).bind fun bt121 => ((arlist_Replace.f k y115 (([(⟨(⟨#[97]⟩ : ByteArray), 0, 0, 0, 0, (⟨#[]⟩ : ByteArray)⟩ : S28)] : List (S28)))).bind fun bt128 => (if (wrap64 ((wrap64 (1020 + (Go.bits .and .i64 a0 7))) + 2)) > 1024 then (graverlaw23_ArlistMany.j0 k (wrap64 (1020 + (Go.bits .and .i64 a0 7))) bt121.2 bt128.2 10 0) else (graverlaw23_ArlistMany.j0 k (wrap64 (1020 + (Go.bits .and .i64 a0 7))) bt121.2 bt128.2 0 0))))) else (none)) else (none)) else (some false)) = some r := H
  have A2 := Aside0.mk A20
  clear A20
  by_cases c3 : t114 = true
  · subst c3
    have H1 : (if 0 ≤ (wrap64 (1020 + (Go.bits .and .i64 a0 7))) then (if (wrap64 (1020 + (Go.bits .and .i64 a0 7)) : Int).toNat ≤ 4398046511104 then ((some (List.replicate (wrap64 (1020 + (Go.bits .and .i64 a0 7)) : Int).toNat z28 : List (S28))).bind fun y115 => ((arlist_Insert.f y115 0 (([(⟨(⟨#[97]⟩ : ByteArray), 0, 0, 0, 0, (⟨#[]⟩ : ByteArray)⟩ : S28), (⟨(⟨#[98]⟩ : ByteArray), 0, 0, 0, 0, (⟨#[]⟩ : ByteArray)⟩ : S28)] : List (S28)))).bind fun bt121 => ((arlist_Replace.f k y115 (([(⟨(⟨#[97]⟩ : ByteArray), 0, 0, 0, 0, (⟨#[]⟩ : ByteArray)⟩ : S28)] : List (S28)))).bind fun bt128 => (if (wrap64 ((wrap64 (1020 + (Go.bits .and .i64 a0 7))) + 2)) > 1024 then (graverlaw23_ArlistMany.j0 k (wrap64 (1020 + (Go.bits .and .i64 a0 7))) bt121.2 bt128.2 10 0) else (graverlaw23_ArlistMany.j0 k (wrap64 (1020 + (Go.bits .and .i64 a0 7))) bt121.2 bt128.2 0 0))))) else (none)) else (none)) = some r := by rw [if_pos rfl] at H; exact H
    clear H
    have H := H1
    clear H1
    obtain ⟨ji4, hji4⟩ : ∃ j_ : Int, (wrap64 (1020 + (Go.bits .and .i64 a0 7))) = j_ := ⟨_, rfl⟩
    replace H : (if 0 ≤ (ji4) then (if (ji4 : Int).toNat ≤ 4398046511104 then ((some (List.replicate (ji4 : Int).toNat z28 : List (S28))).bind fun y115 => ((arlist_Insert.f y115 0 (([(⟨(⟨#[97]⟩ : ByteArray), 0, 0, 0, 0, (⟨#[]⟩ : ByteArray)⟩ : S28), (⟨(⟨#[98]⟩ : ByteArray), 0, 0, 0, 0, (⟨#[]⟩ : ByteArray)⟩ : S28)] : List (S28)))).bind fun bt121 => ((arlist_Replace.f k y115 (([(⟨(⟨#[97]⟩ : ByteArray), 0, 0, 0, 0, (⟨#[]⟩ : ByteArray)⟩ : S28)] : List (S28)))).bind fun bt128 => (if (wrap64 ((ji4) + 2)) > 1024 then (graverlaw23_ArlistMany.j0 k ji4 bt121.2 bt128.2 10 0) else (graverlaw23_ArlistMany.j0 k ji4 bt121.2 bt128.2 0 0))))) else (none)) else (none)) = some r := by first | (rw [hji4] at H; exact H) | (simp only [hji4] at H ⊢; exact H)
    (try rw [hji4] at A2)
    have hji4w : (IntKind.i64.wrap (1020 + (Go.bits .and .i64 a0 7))) = ji4 := (i64_w _).trans hji4
    by_cases c5 : 0 ≤ (ji4)
    · rw [if_pos c5] at H
      have c5b0 := eq_true c5
      have c5b1 : decide (0 ≤ (ji4)) = true := decide_eq_true c5
      clear c5
      by_cases c6 : (ji4 : Int).toNat ≤ 4398046511104
      · rw [if_pos c6] at H
        have c6b0 := eq_true c6
        have c6b1 : decide ((ji4 : Int).toNat ≤ 4398046511104) = true := decide_eq_true c6
        clear c6
        obtain ⟨y115, hy115⟩ : ∃ y_ : List (S28), y_ = (List.replicate (ji4 : Int).toNat z28) := ⟨_, rfl⟩
        replace H : ((arlist_Insert.f y115 0 (([(⟨(⟨#[97]⟩ : ByteArray), 0, 0, 0, 0, (⟨#[]⟩ : ByteArray)⟩ : S28), (⟨(⟨#[98]⟩ : ByteArray), 0, 0, 0, 0, (⟨#[]⟩ : ByteArray)⟩ : S28)] : List (S28)))).bind fun bt121 => ((arlist_Replace.f k y115 (([(⟨(⟨#[97]⟩ : ByteArray), 0, 0, 0, 0, (⟨#[]⟩ : ByteArray)⟩ : S28)] : List (S28)))).bind fun bt128 => (if (wrap64 ((ji4) + 2)) > 1024 then (graverlaw23_ArlistMany.j0 k ji4 bt121.2 bt128.2 10 0) else (graverlaw23_ArlistMany.j0 k ji4 bt121.2 bt128.2 0 0)))) = some r := by first | (rw [hy115]; with_reducible exact H) | (have H2_ := (Option.bind_some _ _).symm.trans H; rw [hy115]; with_reducible exact H2_) | (have H2_ := (Option.bind_some _ _).symm.trans H; with_reducible exact H2_) | with_reducible exact H | (rw [hy115]; exact H) | exact H
        have Ny115 := Aside0.mk hy115
        clear hy115
        obtain ⟨y118, hy118⟩ : ∃ y_ : List (S28), y_ = (([(⟨(⟨#[97]⟩ : ByteArray), 0, 0, 0, 0, (⟨#[]⟩ : ByteArray)⟩ : S28), (⟨(⟨#[98]⟩ : ByteArray), 0, 0, 0, 0, (⟨#[]⟩ : ByteArray)⟩ : S28)] : List (S28))) := ⟨_, rfl⟩
        replace H : ((arlist_Insert.f y115 0 y118).bind fun bt121 => ((arlist_Replace.f k y115 (([(⟨(⟨#[97]⟩ : ByteArray), 0, 0, 0, 0, (⟨#[]⟩ : ByteArray)⟩ : S28)] : List (S28)))).bind fun bt128 => (if (wrap64 ((ji4) + 2)) > 1024 then (graverlaw23_ArlistMany.j0 k ji4 bt121.2 bt128.2 10 0) else (graverlaw23_ArlistMany.j0 k ji4 bt121.2 bt128.2 0 0)))) = some r := by first | (rw [hy118]; with_reducible exact H) | (have H2_ := (Option.bind_some _ _).symm.trans H; rw [hy118]; with_reducible exact H2_) | (have H2_ := (Option.bind_some _ _).symm.trans H; with_reducible exact H2_) | with_reducible exact H | (rw [hy118]; exact H) | exact H
        have Ny118 := Aside0.mk hy118
        clear hy118
        replace H := Option.bind_eq_some_iff.mp H
        obtain ⟨⟨t121, t122⟩, A70, H⟩ := H
        replace H : ((arlist_Replace.f k y115 (([(⟨(⟨#[97]⟩ : ByteArray), 0, 0, 0, 0, (⟨#[]⟩ : ByteArray)⟩ : S28)] : List (S28)))).bind fun bt128 => (if (wrap64 ((ji4) + 2)) > 1024 then (graverlaw23_ArlistMany.j0 k ji4 t122 bt128.2 10 0) else (graverlaw23_ArlistMany.j0 k ji4 t122 bt128.2 0 0))) = some r := H
        have A7 := Aside0.mk A70
        clear A70
        obtain ⟨y125, hy125⟩ : ∃ y_ : List (S28), y_ = (([(⟨(⟨#[97]⟩ : ByteArray), 0, 0, 0, 0, (⟨#[]⟩ : ByteArray)⟩ : S28)] : List (S28))) := ⟨_, rfl⟩
        replace H : ((arlist_Replace.f k y115 y125).bind fun bt128 => (if (wrap64 ((ji4) + 2)) > 1024 then (graverlaw23_ArlistMany.j0 k ji4 t122 bt128.2 10 0) else (graverlaw23_ArlistMany.j0 k ji4 t122 bt128.2 0 0))) = some r := by first | (rw [hy125]; with_reducible exact H) | (have H2_ := (Option.bind_some _ _).symm.trans H; rw [hy125]; with_reducible exact H2_) | (have H2_ := (Option.bind_some _ _).symm.trans H; with_reducible exact H2_) | with_reducible exact H | (rw [hy125]; exact H) | exact H
        have Ny125 := Aside0.mk hy125
        clear hy125
        replace H := Option.bind_eq_some_iff.mp H
        obtain ⟨⟨t128, t129⟩, A80, H⟩ := H
        replace H : (if (wrap64 ((ji4) + 2)) > 1024 then (graverlaw23_ArlistMany.j0 k ji4 t122 t129 10 0) else (graverlaw23_ArlistMany.j0 k ji4 t122 t129 0 0)) = some r := H
        have A8 := Aside0.mk A80
        clear A80
        have HC9 := Aside0.mk H
        clear H
        go_enter Try.func5, Try.ntmps5
        go_upto_if 34 with (first | ((with_reducible refine gate_callee (f := 8) rfl ?_); refine goesL_ (some 10) rfl rfl Try.func8 (by kernel_rfl) rfl #[] rfl (by (try simp only [List.map_toArray, List.map_cons, List.map_nil]); first | done | rfl | (simp only [List.length_drop, List.length_take]; rfl)) ?_; (with_reducible refine (graverlaw23_speaks.calls  true _ A2.out).mono ?_); rintro e w10 ⟨rfl, hb⟩; refine ⟨_, rfl, ?_⟩; have n0_ := Aside0.mk (below_step (by repeat (first | (with_reducible first | exact HB.out | apply below_alloc | apply pw_below_drewN | apply below_drew1) | exact HB.out)) hb); clear HB; have HB := n0_; clear n0_; (try clear hb); (try clear hb2); (try clear hk); (try clear hi)) | ((with_reducible refine gate_dst (N := 16) rfl ?_); refine Kd.R_make k28 _ 28 rfl (N := 16) rfl 24 _ _ rfl ji4 rfl rfl Try.underlying24 (.agg #[(.string ⟨#[]⟩), (.int .u64 0), (.int .u64 0), (.int .u64 0), (.int .u64 0), (.string ⟨#[]⟩)]) 64 info28 rfl (by decide) (by omega) z28 (ok := fun _ => True) (okp := fun _ => True) (k28_mkM _ _ _ z28 ) (fun _ hk => hk) trivial (of_decide_eq_true (by first | (with_reducible assumption) | assumption)) (Nat.le_trans (Nat.mul_le_mul_right _ (of_decide_eq_true (by first | (with_reducible assumption) | assumption) : ji4.toNat ≤ 4398046511104)) (by omega)) (Below.refl _ _) (Nat.le_refl _) ?_; intro v116 w11 ho12 hb hg_ hnew_; clear hg_ hnew_; (first | rw [← Ny115.out] at ho12 | (simp only [Int.reduceToNat] at ho12; rw [← Ny115.out] at ho12)); have n0_ := Aside0.mk (Kd.R_lower ho12 (below_size (by repeat (first | (with_reducible first | exact HB.out | apply below_alloc | apply pw_below_drewN | apply below_drew1) | exact HB.out)))); have n1_ := Aside0.mk (below_step (by repeat (first | (with_reducible first | exact HB.out | apply below_alloc | apply pw_below_drewN | apply below_drew1) | exact HB.out)) hb); clear HB; have HO117 := n0_; have HB := n1_; clear n0_ n1_; clear hb ho12) | ((with_reducible refine gate_dst (N := 21) rfl ?_); refine Kd.R_lit k28 _ 28 ?hg (N := 21) ?hd (xs := ([(⟨(⟨#[97]⟩ : ByteArray), 0, 0, 0, 0, (⟨#[]⟩ : ByteArray)⟩ : S28), (⟨(⟨#[98]⟩ : ByteArray), 0, 0, 0, 0, (⟨#[]⟩ : ByteArray)⟩ : S28)] : List (S28))) (inner := [.string (⟨#[97]⟩ : ByteArray), .int .u64 0, .int .u64 0, .int .u64 0, .int .u64 0, .string (⟨#[]⟩ : ByteArray), .string (⟨#[98]⟩ : ByteArray), .int .u64 0, .int .u64 0, .int .u64 0, .int .u64 0, .string (⟨#[]⟩ : ByteArray)]) (ok := fun _ => True) (okp := fun _ => True) ?hr ?hp (fun _ hk => hk) trivial (Below.refl _ _) (Nat.le_refl _) (by simp) ?_; (case hd => rfl); (case hg => rfl); (case hr => first | (go_simp; done) | (go_simp; rfl)); (case hp => exact (Reps.c6 (show Kd.M k28 _ _ _ (⟨(⟨#[97]⟩ : ByteArray), 0, 0, 0, 0, (⟨#[]⟩ : ByteArray)⟩ : S28) [.string (⟨#[97]⟩ : ByteArray), .int .u64 0, .int .u64 0, .int .u64 0, .int .u64 0, .string (⟨#[]⟩ : ByteArray)] from (k28_mkM _ _ _ (⟨(⟨#[97]⟩ : ByteArray), 0, 0, 0, 0, (⟨#[]⟩ : ByteArray)⟩ : S28) )) (Reps.c6 (show Kd.M k28 _ _ _ (⟨(⟨#[98]⟩ : ByteArray), 0, 0, 0, 0, (⟨#[]⟩ : ByteArray)⟩ : S28) [.string (⟨#[98]⟩ : ByteArray), .int .u64 0, .int .u64 0, .int .u64 0, .int .u64 0, .string (⟨#[]⟩ : ByteArray)] from (k28_mkM _ _ _ (⟨(⟨#[98]⟩ : ByteArray), 0, 0, 0, 0, (⟨#[]⟩ : ByteArray)⟩ : S28) )) (Reps.none _ _)))); intro v119 w13 ho14 hb hg_ hnew_; clear hg_ hnew_; (first | rw [← Ny118.out] at ho14 | (simp only [Int.reduceToNat] at ho14; rw [← Ny118.out] at ho14)); have n0_ := Aside0.mk (Kd.R_elder' (by (with_reducible repeat (first | apply Kd.R_alloc | apply Kd.R_drewN | apply Kd.R_drew)); exact HO117.out) (Kd.R_base ho14) hb); have n1_ := Aside0.mk (Kd.R_lower (Kd.R_new' ho14 (Kd.R_lt (by (with_reducible repeat (first | apply Kd.R_alloc | apply Kd.R_drewN | apply Kd.R_drew)); exact HO117.out))) (below_size (by repeat (first | (with_reducible first | exact HB.out | apply below_alloc | apply pw_below_drewN | apply below_drew1) | exact HB.out)))); have n2_ := Aside0.mk (below_step (by repeat (first | (with_reducible first | exact HB.out | apply below_alloc | apply pw_below_drewN | apply below_drew1) | exact HB.out)) hb); clear HO117; clear HB; have HO117 := n0_; have HO120 := n1_; have HB := n2_; clear n0_ n1_ n2_; clear hb ho14; obtain ⟨Ao15, co15, eo15⟩ := Kd.R_slice HO117.out; subst eo15; obtain ⟨Ao16, co16, eo16⟩ := Kd.R_slice HO120.out; subst eo16) | ((with_reducible refine gate_callee (f := 11) rfl ?_); refine goesL_ (some 22) rfl rfl Try.func11 (by kernel_rfl) rfl #[.slice Ao15 y115.length co15, .int .i64 0, .slice Ao16 y118.length co16] rfl (by (try simp only [List.map_toArray, List.map_cons, List.map_nil]); first | done | rfl | (simp only [List.length_drop, List.length_take]; rfl)) ?_; (with_reducible refine (arlist_Insert.calls _ _ y115 0 _ _ y118 t121 t122 _ ?side1 ?side2 ?side3 ?side4 A7.out).mono ?_); (case side1 => repeat (first | exact (Kd.R_reads' HO117.out).2.2 | (with_reducible refine Kd.C_alloc ?_ _) | (with_reducible refine Kd.C_drewN ?_ _) | (with_reducible refine Kd.C_drew ?_))); (case side2 => exact (Kd.R_reads' HO117.out).2.1); (case side3 => repeat (first | exact (Kd.R_reads' HO120.out).2.2 | (with_reducible refine Kd.C_alloc ?_ _) | (with_reducible refine Kd.C_drewN ?_ _) | (with_reducible refine Kd.C_drew ?_))); (case side4 => exact (Kd.R_reads' HO120.out).2.1); rintro e w17 ⟨v123, rfl, ho0, hb⟩; refine ⟨_, rfl, ?_⟩; have n0_ := Aside0.mk (Kd.R_elder' (by (with_reducible repeat (first | apply Kd.R_alloc | apply Kd.R_drewN | apply Kd.R_drew)); exact HO117.out) (Kd.R_base ho0) hb); have n1_ := Aside0.mk (Kd.R_elder' (by (with_reducible repeat (first | apply Kd.R_alloc | apply Kd.R_drewN | apply Kd.R_drew)); exact HO120.out) (Kd.R_base ho0) hb); have n2_ := Aside0.mk (Kd.R_lower (Kd.R_new' (Kd.R_new' ho0 (Kd.R_lt (by (with_reducible repeat (first | apply Kd.R_alloc | apply Kd.R_drewN | apply Kd.R_drew)); exact HO117.out))) (Kd.R_lt (by (with_reducible repeat (first | apply Kd.R_alloc | apply Kd.R_drewN | apply Kd.R_drew)); exact HO120.out))) (below_size (by repeat (first | (with_reducible first | exact HB.out | apply below_alloc | apply pw_below_drewN | apply below_drew1) | exact HB.out)))); have n3_ := Aside0.mk (below_step (by repeat (first | (with_reducible first | exact HB.out | apply below_alloc | apply pw_below_drewN | apply below_drew1) | exact HB.out)) hb); clear HO117; clear HO120; clear HB; have HO117 := n0_; have HO120 := n1_; have HO124 := n2_; have HB := n3_; clear n0_ n1_ n2_ n3_; (try clear hb); (try clear hb2); (try clear hk); (try clear hi); (try clear ho0)) | ((with_reducible refine gate_dst (N := 28) rfl ?_); refine Kd.R_lit k28 _ 28 ?hg (N := 28) ?hd (xs := ([(⟨(⟨#[97]⟩ : ByteArray), 0, 0, 0, 0, (⟨#[]⟩ : ByteArray)⟩ : S28)] : List (S28))) (inner := [.string (⟨#[97]⟩ : ByteArray), .int .u64 0, .int .u64 0, .int .u64 0, .int .u64 0, .string (⟨#[]⟩ : ByteArray)]) (ok := fun _ => True) (okp := fun _ => True) ?hr ?hp (fun _ hk => hk) trivial (Below.refl _ _) (Nat.le_refl _) (by simp) ?_; (case hd => rfl); (case hg => rfl); (case hr => first | (go_simp; done) | (go_simp; rfl)); (case hp => exact (Reps.c6 (show Kd.M k28 _ _ _ (⟨(⟨#[97]⟩ : ByteArray), 0, 0, 0, 0, (⟨#[]⟩ : ByteArray)⟩ : S28) [.string (⟨#[97]⟩ : ByteArray), .int .u64 0, .int .u64 0, .int .u64 0, .int .u64 0, .string (⟨#[]⟩ : ByteArray)] from (k28_mkM _ _ _ (⟨(⟨#[97]⟩ : ByteArray), 0, 0, 0, 0, (⟨#[]⟩ : ByteArray)⟩ : S28) )) (Reps.none _ _))); intro v126 w18 ho19 hb hg_ hnew_; clear hg_ hnew_; (first | rw [← Ny125.out] at ho19 | (simp only [Int.reduceToNat] at ho19; rw [← Ny125.out] at ho19)); have n0_ := Aside0.mk (Kd.R_elder' (by (with_reducible repeat (first | apply Kd.R_alloc | apply Kd.R_drewN | apply Kd.R_drew)); exact HO117.out) (Kd.R_base ho19) hb); have n1_ := Aside0.mk (Kd.R_elder' (by (with_reducible repeat (first | apply Kd.R_alloc | apply Kd.R_drewN | apply Kd.R_drew)); exact HO120.out) (Kd.R_base ho19) hb); have n2_ := Aside0.mk (Kd.R_elder' (by (with_reducible repeat (first | apply Kd.R_alloc | apply Kd.R_drewN | apply Kd.R_drew)); exact HO124.out) (Kd.R_base ho19) hb); have n3_ := Aside0.mk (Kd.R_lower (Kd.R_new' (Kd.R_new' (Kd.R_new' ho19 (Kd.R_lt (by (with_reducible repeat (first | apply Kd.R_alloc | apply Kd.R_drewN | apply Kd.R_drew)); exact HO117.out))) (Kd.R_lt (by (with_reducible repeat (first | apply Kd.R_alloc | apply Kd.R_drewN | apply Kd.R_drew)); exact HO120.out))) (Kd.R_lt (by (with_reducible repeat (first | apply Kd.R_alloc | apply Kd.R_drewN | apply Kd.R_drew)); exact HO124.out))) (below_size (by repeat (first | (with_reducible first | exact HB.out | apply below_alloc | apply pw_below_drewN | apply below_drew1) | exact HB.out)))); have n4_ := Aside0.mk (below_step (by repeat (first | (with_reducible first | exact HB.out | apply below_alloc | apply pw_below_drewN | apply below_drew1) | exact HB.out)) hb); clear HO117; clear HO120; clear HO124; clear HB; have HO117 := n0_; have HO120 := n1_; have HO124 := n2_; have HO127 := n3_; have HB := n4_; clear n0_ n1_ n2_ n3_ n4_; clear hb ho19; obtain ⟨Ao20, co20, eo20⟩ := Kd.R_slice HO127.out; subst eo20) | ((with_reducible refine gate_callee (f := 9) rfl ?_); refine goesL_ (some 29) rfl rfl Try.func9 (by kernel_rfl) rfl #[.slice Ao15 y115.length co15, .slice Ao20 y125.length co20] rfl (by (try simp only [List.map_toArray, List.map_cons, List.map_nil]); first | done | rfl | (simp only [List.length_drop, List.length_take]; rfl)) ?_; (with_reducible refine (arlist_Replace.calls k _ _ y115 _ _ y125 t128 t129 _ ?side1 ?side2 ?side3 ?side4 A8.out).mono ?_); (case side1 => repeat (first | exact (Kd.R_reads' HO117.out).2.2 | (with_reducible refine Kd.C_alloc ?_ _) | (with_reducible refine Kd.C_drewN ?_ _) | (with_reducible refine Kd.C_drew ?_))); (case side2 => exact (Kd.R_reads' HO117.out).2.1); (case side3 => repeat (first | exact (Kd.R_reads' HO127.out).2.2 | (with_reducible refine Kd.C_alloc ?_ _) | (with_reducible refine Kd.C_drewN ?_ _) | (with_reducible refine Kd.C_drew ?_))); (case side4 => exact (Kd.R_reads' HO127.out).2.1); rintro e w21 ⟨v130, rfl, ho0, hb⟩; refine ⟨_, rfl, ?_⟩; have n0_ := Aside0.mk (Kd.R_elder' (by (with_reducible repeat (first | apply Kd.R_alloc | apply Kd.R_drewN | apply Kd.R_drew)); exact HO117.out) (Kd.R_base ho0) hb); have n1_ := Aside0.mk (Kd.R_elder' (by (with_reducible repeat (first | apply Kd.R_alloc | apply Kd.R_drewN | apply Kd.R_drew)); exact HO120.out) (Kd.R_base ho0) hb); have n2_ := Aside0.mk (Kd.R_elder' (by (with_reducible repeat (first | apply Kd.R_alloc | apply Kd.R_drewN | apply Kd.R_drew)); exact HO124.out) (Kd.R_base ho0) hb); have n3_ := Aside0.mk (Kd.R_elder' (by (with_reducible repeat (first | apply Kd.R_alloc | apply Kd.R_drewN | apply Kd.R_drew)); exact HO127.out) (Kd.R_base ho0) hb); have n4_ := Aside0.mk (Kd.R_lower (Kd.R_new' (Kd.R_new' (Kd.R_new' (Kd.R_new' ho0 (Kd.R_lt (by (with_reducible repeat (first | apply Kd.R_alloc | apply Kd.R_drewN | apply Kd.R_drew)); exact HO117.out))) (Kd.R_lt (by (with_reducible repeat (first | apply Kd.R_alloc | apply Kd.R_drewN | apply Kd.R_drew)); exact HO120.out))) (Kd.R_lt (by (with_reducible repeat (first | apply Kd.R_alloc | apply Kd.R_drewN | apply Kd.R_drew)); exact HO124.out))) (Kd.R_lt (by (with_reducible repeat (first | apply Kd.R_alloc | apply Kd.R_drewN | apply Kd.R_drew)); exact HO127.out))) (below_size (by repeat (first | (with_reducible first | exact HB.out | apply below_alloc | apply pw_below_drewN | apply below_drew1) | exact HB.out)))); have n5_ := Aside0.mk (below_step (by repeat (first | (with_reducible first | exact HB.out | apply below_alloc | apply pw_below_drewN | apply below_drew1) | exact HB.out)) hb); clear HO117; clear HO120; clear HO124; clear HO127; clear HB; have HO117 := n0_; have HO120 := n1_; have HO124 := n2_; have HO127 := n3_; have HO131 := n4_; have HB := n5_; clear n0_ n1_ n2_ n3_ n4_ n5_; (try clear hb); (try clear hb2); (try clear hk); (try clear hi); (try clear ho0)))
        (try simp only [Act.put, List.setIfInBounds_toArray, List.set_cons_zero, List.set_cons_succ])
        go_cut [8] (fun v8 wc => ∃ (kq : Nat) (x8_8 : Int), v8 = .int .i64 x8_8 ∧ Aside0 (graverlaw23_ArlistMany.j0 kq ji4 t122 t129 x8_8 0 = some r) ∧ Aside0 (kq ≤ k) ∧ Aside0 (Below w.heap.size w wc))
        case first =>
          have H := HC9.out
          clear HC9
          by_cases c22 : (wrap64 ((ji4) + 2)) > 1024
          · rw [if_pos c22] at H
            have c22b0 : decide (1024 < (wrap64 ((ji4) + 2))) = true := decide_eq_true c22
            clear c22
            (first | rw [c22b0] | (simp only [i64_w, i32_w]; rw [c22b0]) | skip)
            have H' := Aside0.mk H
            clear H
            go_wp2
            go_meet
            case rel => exact ⟨_, (10), (by first | rfl | (simp; done) | (simp [*]; done)), H', ⟨by first | omega | exact Nat.le_refl _⟩, ⟨by repeat (first | (with_reducible first | exact HB.out | apply below_alloc | apply pw_below_drewN | apply below_drew1) | exact HB.out)⟩⟩
          · rw [if_neg c22] at H
            have c22b0 : decide (1024 < (wrap64 ((ji4) + 2))) = false := decide_eq_false c22
            clear c22
            (first | rw [c22b0] | (simp only [i64_w, i32_w]; rw [c22b0]) | skip)
            have H' := Aside0.mk H
            clear H
            go_wp2
            go_meet
            case rel => exact ⟨_, (0), (by first | rfl | (simp; done) | (simp [*]; done)), H', ⟨by first | omega | exact Nat.le_refl _⟩, ⟨by repeat (first | (with_reducible first | exact HB.out | apply below_alloc | apply pw_below_drewN | apply below_drew1) | exact HB.out)⟩⟩
        case rest =>
          clear HC9
          try clear c1
          try clear c2
          try clear p2
          try clear c3
          try clear c5
          try clear c5b0
          try clear c5b1
          try clear c6
          try clear c6b0
          try clear c6b1
          try clear p6
          try clear c8
          try clear c9
          try clear c11
          try clear c22
          try clear c22b0
          obtain ⟨kq, x8_8, rfl, HA, HJ8, HB⟩ := hcut
          cases kq with
          | zero => exact absurd HA.out (by simp [graverlaw23_ArlistMany.j0])
          | succ kj8 =>
            have H := HA.out
            clear HA
            simp only [graverlaw23_ArlistMany.j0] at H
            by_cases c23 : (wrap64 (ji4 + 1)) > 1024
            · rw [if_pos c23] at H
              have c23b0 : decide (1024 < (wrap64 (ji4 + 1))) = true := decide_eq_true c23
              clear c23
              by_cases c24 : t122 = x8_8
              · rw [if_pos c24] at H
                have c24b0 : (t122 == x8_8) = true := beq_iff_eq.mpr c24
                have c24b1 : (t122 != x8_8) = false := bne_eq_false_iff_eq.mpr c24
                clear c24
                obtain rfl := Option.some.inj H
                go_wp2
                go_ret
                exact ⟨by first | rfl | (simp [errW_none, errW_some] <;> rfl) | (simp only [← hji4]; first | rfl | (simp [errW_none, errW_some] <;> rfl)) | (simp [*, errW_none, errW_some] <;> rfl), by repeat (first | (with_reducible first | exact HB.out | apply below_alloc | apply pw_below_drewN | apply below_drew1) | exact HB.out)⟩
              · rw [if_neg c24] at H
                have c24b0 : (t122 == x8_8) = false := beq_eq_false_iff_ne.mpr c24
                have c24b1 : (t122 != x8_8) = true := bne_iff_ne.mpr c24
                obtain rfl := Option.some.inj H
                go_wp2
                go_ret
                exact ⟨by first | rfl | (simp [errW_none, errW_some] <;> rfl) | (simp only [← hji4]; first | rfl | (simp [errW_none, errW_some] <;> rfl)) | (simp [*, errW_none, errW_some] <;> rfl), by repeat (first | (with_reducible first | exact HB.out | apply below_alloc | apply pw_below_drewN | apply below_drew1) | exact HB.out)⟩
            · rw [if_neg c23] at H
              have c23b0 : decide (1024 < (wrap64 (ji4 + 1))) = false := decide_eq_false c23
              clear c23
              by_cases c25 : t122 = x8_8
              · rw [if_pos c25] at H
                have c25b0 : (t122 == x8_8) = true := beq_iff_eq.mpr c25
                have c25b1 : (t122 != x8_8) = false := bne_eq_false_iff_eq.mpr c25
                clear c25
                obtain rfl := Option.some.inj H
                go_wp2
                go_ret
                exact ⟨by first | rfl | (simp [errW_none, errW_some] <;> rfl) | (simp only [← hji4]; first | rfl | (simp [errW_none, errW_some] <;> rfl)) | (simp [*, errW_none, errW_some] <;> rfl), by repeat (first | (with_reducible first | exact HB.out | apply below_alloc | apply pw_below_drewN | apply below_drew1) | exact HB.out)⟩
              · rw [if_neg c25] at H
                have c25b0 : (t122 == x8_8) = false := beq_eq_false_iff_ne.mpr c25
                have c25b1 : (t122 != x8_8) = true := bne_iff_ne.mpr c25
                obtain rfl := Option.some.inj H
                go_wp2
                go_ret
                exact ⟨by first | rfl | (simp [errW_none, errW_some] <;> rfl) | (simp only [← hji4]; first | rfl | (simp [errW_none, errW_some] <;> rfl)) | (simp [*, errW_none, errW_some] <;> rfl), by repeat (first | (with_reducible first | exact HB.out | apply below_alloc | apply pw_below_drewN | apply below_drew1) | exact HB.out)⟩
      · rw [if_neg c6] at H
        exact absurd H (by simp)
    · rw [if_neg c5] at H
      exact absurd H (by simp)
  · replace c3 := Bool.eq_false_iff.mpr c3
    subst c3
    have H1 : (some false) = some r := by rw [if_neg (show ¬ (false = true) by decide)] at H; exact H
    clear H
    have H := H1
    clear H1
    obtain rfl := Option.some.inj H
    go_enter Try.func5, Try.ntmps5
    go_wp2_with (first | ((with_reducible refine gate_callee (f := 8) rfl ?_); refine goesL_ (some 10) rfl rfl Try.func8 (by kernel_rfl) rfl #[] rfl (by (try simp only [List.map_toArray, List.map_cons, List.map_nil]); first | done | rfl | (simp only [List.length_drop, List.length_take]; rfl)) ?_; (with_reducible refine (graverlaw23_speaks.calls  false _ A2.out).mono ?_); rintro e w26 ⟨rfl, hb⟩; refine ⟨_, rfl, ?_⟩; have n0_ := Aside0.mk (below_step (by repeat (first | (with_reducible first | exact HB.out | apply below_alloc | apply pw_below_drewN | apply below_drew1) | exact HB.out)) hb); clear HB; have HB := n0_; clear n0_; (try clear hb); (try clear hb2); (try clear hk); (try clear hi)))
    go_ret
    exact ⟨by first | rfl | (simp [errW_none, errW_some] <;> rfl) | (simp [*, errW_none, errW_some] <;> rfl), by repeat (first | (with_reducible first | exact HB.out | apply below_alloc | apply pw_below_drewN | apply below_drew1) | exact HB.out)⟩

/-- THE ONE PURE STATEMENT of graverlaw23_ArlistMany: yours. -/
def graverlaw23_ArlistMany.Pure : Prop := ∀ (a0 : Int), (Lit.int .i64 a0).wf = true → ∃ k, graverlaw23_ArlistMany.f k a0 = some true
theorem graverlaw23_ArlistMany.walk (P : graverlaw23_ArlistMany.Pure) (a0 : Int) (w : World) (w0 : (Lit.int .i64 a0).wf = true) :
    Calls Try.prog 5 #[.int .i64 a0] w fun e w' => e = .returned (.bool true) ∧ Below w.heap.size w w' := by
  obtain ⟨k, h⟩ := P a0 w0
  refine (graverlaw23_ArlistMany.calls k a0 true w h).mono ?_
  rintro e w' ⟨rfl, hd⟩
  exact ⟨rfl, hd⟩

end Go.Proofs.YtienjagoplcimaaX.Ma

/- Contracts over this translation: plans that are handed to a law; two plans' models. -/
import Derived.Test.YthphhogljniofaaDoorXKdM17Q
import Derived.Test.YthphhogljniofaaDoorXKdM17U
namespace Go.Proofs.YthphhogljniofaaDoorX.Kd
open Go.RowKit Go.Proofs.YthphhogljniofaaDoor Go.Proofs.YthphhogljniofaaDoorW.PrintWords
structure S27 where
 f0 : Int
 f1 : List S74
 f2 : List S52
 f3 : List S87
 f4 : List ByteArray
def k27 : Kd S27 := Kd.iso (Kd.pair (Kd.int .i64) (Kd.pair (Kd.slice 74 k74) (Kd.pair (Kd.slice 52 k52) (Kd.pair (Kd.slice 87 k87) (Kd.slice 9 Kd.string))))) (fun x : S27 => (x.f0, x.f1, x.f2, x.f3, x.f4))
theorem k27_open {w : World} {x : S27} {cs : List Value} (h : k27.K w x cs) : ∃ A1 c1 A2 c2 A3 c3 A4 c4, cs = [.int .i64 x.f0, .slice A1 x.f1.length c1, .slice A2 x.f2.length c2, .slice A3 x.f3.length c3, .slice A4 x.f4.length c4] ∧ k74.C w A1 x.f1.length x.f1 ∧ k52.C w A2 x.f2.length x.f2 ∧ k87.C w A3 x.f3.length x.f3 ∧ Kd.string.C w A4 x.f4.length x.f4 := by
 obtain ⟨_, _, rfl, rfl, ⟨_, _, rfl, ⟨A1, c1, rfl, l1, g1⟩, ⟨_, _, rfl, ⟨A2, c2, rfl, l2, g2⟩, ⟨_, _, rfl, ⟨A3, c3, rfl, l3, g3⟩, ⟨A4, c4, rfl, l4, g4⟩⟩⟩⟩⟩ := h
 exact ⟨A1, c1, A2, c2, A3, c3, A4, c4, rfl, g1, g2, g3, g4⟩
end Go.Proofs.YthphhogljniofaaDoorX.Kd
namespace Go.Proofs.YthphhogljniofaaDoor
set_option linter.unusedVariables false
set_option linter.unusedSimpArgs false
open Go.RowKit Go.Proofs.YthphhogljniofaaDoorX.Kd Go.Proofs.YthphhogljniofaaDoorW.PrintWords Go.Proofs.YthphhogljniofaaDoorW.PrintLast Go.Proofs.YthphhogljniofaaDoorW.PrintMore

def PM (z : S27) : MdD := planM z.f0 z.f1 z.f2 z.f3 z.f4
/-- What may be asked of a plan: its texts are no longer than memory. -/
def okP (z : S27) : Prop := (∀ x ∈ z.f1, x.f0.size ≤ 9223372036854775807 ∧ x.f4.size ≤ 9223372036854775807) ∧ ∀ x ∈ z.f2, x.f0.size ≤ 9223372036854775807
def MDv (z : S27) (w : World) (v : Value) : Prop := ∃ A9 c9 A10 c10, v = .agg #[.bool (flagB z.f0 2), .bool (flagB z.f0 1), .int .u8 3, .int .u8 0, .int .u64 1, .int .u64 243, .int .u64 16, .int .u64 5, .int .u64 1, .slice A9 (madeSecs z.f0 z.f1 z.f2 z.f3).length c9, .slice A10 (segsR z.f4).length c10] ∧ Kd.C k78 w A9 (madeSecs z.f0 z.f1 z.f2 z.f3).length (madeSecs z.f0 z.f1 z.f2 z.f3) ∧ Kd.C k81 w A10 (segsR z.f4).length (segsR z.f4)
def TDv (z : S27) (w : World) (v : Value) : Prop := ∃ B9 d9 B10 d10, v = .agg #[.bool (flagB z.f0 1), .bool (flagB z.f0 2), .int .u8 3, .int .u8 0, .string ⟨#[]⟩, .int .u64 1, .int .u64 243, .int .u64 16, .int .u64 5, .int .u64 1, .slice B9 (PM z).L.length d9, .slice B10 (PM z).D.length d10] ∧ Kd.R k58 58 w 0 (fun _ => True) (.slice B9 (PM z).L.length d9) (PM z).L ∧ Kd.R k65 65 w 0 (fun _ => True) (.slice B10 (PM z).D.length d10) (PM z).D
theorem MDv.below {z : S27} {w w1 : World} {v : Value} (h : MDv z w v) (hb : Below w.heap.size w w1) : MDv z w1 v := by
 obtain ⟨A9, c9, A10, c10, e, h1, h2⟩ := h
 exact ⟨A9, c9, A10, c10, e, Kd.C_below h1 hb, Kd.C_below h2 hb⟩
theorem TDv.below {z : S27} {w w1 : World} {v : Value} (h : TDv z w v) (hb : Below w.heap.size w w1) : TDv z w1 v := by
 obtain ⟨A9, c9, A10, c10, e, h1, h2⟩ := h
 exact ⟨A9, c9, A10, c10, e, Kd.R_below h1 hb, Kd.R_below h2 hb⟩
theorem made_z (z : S27) (hz : okP z) (a01 a02 a03 a04 : Option Addr) (c01 c02 c03 c04 : Nat) (w : World) (h1 : Kd.C k74 w a01 z.f1.length z.f1) (h2 : Kd.C k52 w a02 z.f2.length z.f2) (h3 : Kd.C k87 w a03 z.f3.length z.f3) (h4 : Kd.C Kd.string w a04 z.f4.length z.f4) :
  Calls Tryd.prog 9 #[.agg #[.int .i64 z.f0, .slice a01 z.f1.length c01, .slice a02 z.f2.length c02, .slice a03 z.f3.length c03, .slice a04 z.f4.length c04]] w fun e w' => ∃ v, e = .returned v ∧ MDv z w' v ∧ Below w.heap.size w w' := by
 refine (made_any z.f0 z.f1 z.f2 z.f3 z.f4 hz.1 hz.2 a01 a02 a03 a04 c01 c02 c03 c04 w h1 h2 h3 h4).mono ?_
 rintro e w' ⟨v9, v10, rfl, hR, hD, hB⟩
 obtain ⟨A9, c9, rfl, _, hC9⟩ := Kd.R_reads hR
 obtain ⟨A10, c10, rfl, _, hC10⟩ := Kd.R_reads hD
 exact ⟨_, rfl, ⟨A9, c9, A10, c10, rfl, hC9, hC10⟩, hB⟩
theorem told_z (z : S27) (v : Value) (w : World) (h : MDv z w v) : Calls Tryd.prog 8 #[v] w fun e w' => ∃ u, e = .returned u ∧ TDv z w' u ∧ Below w.heap.size w w' := by
 obtain ⟨A9, c9, A10, c10, rfl, h1, h2⟩ := h
 have hl := madeSecs_len z.f0 z.f1 z.f2 z.f3
 have hs := segsR_le z.f4
 refine (told_any (flagB z.f0 2) (flagB z.f0 1) 3 0 1 243 16 5 1 (madeSecs z.f0 z.f1 z.f2 z.f3) (segsR z.f4) (by omega) (by omega) (fun x hx => by have := madeSecs_in z.f0 z.f1 z.f2 z.f3 x hx; omega) A9 A10 c9 c10 w h1 h2).mono ?_
 rintro e w' ⟨v9, v10, rfl, hR, hD, hB⟩
 obtain ⟨B9, d9, rfl⟩ := Kd.R_slice hR
 obtain ⟨B10, d10, rfl⟩ := Kd.R_slice hD
 exact ⟨_, rfl, ⟨B9, d9, B10, d10, rfl, Kd.R_lower hR (Nat.zero_le _), Kd.R_lower hD (Nat.zero_le _)⟩, hB⟩
/-- An allocated block that nobody has written yet. -/
def FLt (w0 w : World) (t : Option Bool) (u : Value) (g : Nat) : Prop := t = some true → u = .pointer (some ⟨g, 0, none⟩) ∧ w.heap[g]? = some (.cells #[.bool false, .bool false, .int .u8 0, .int .u8 0, .string ⟨#[]⟩, .int .u64 0, .int .u64 0, .int .u64 0, .int .u64 0, .int .u64 0, .slice none 0 0, .slice none 0 0] 39 (0, 0)) ∧ w0.heap.size ≤ g
theorem FLt.below {w0 w w1 : World} {t : Option Bool} {u : Value} {g : Nat} (h : FLt w0 w t u g) (hb : Below w.heap.size w w1) : FLt w0 w1 t u g := fun ht => ⟨(h ht).1, blk_below (h ht).2.1 hb, (h ht).2.2⟩
theorem FLt.lt {w0 w : World} {t : Option Bool} {u : Value} {g : Nat} (h : FLt w0 w t u g) (ht : t = some true) : g < w.heap.size := blk_lt (h ht).2.1
theorem diff_t (z z' : S27) (B0 E0 B1 E1 : Option Addr) (d0 e0 d1 e1 : Nat) (w : World) (h9 : Kd.C k58 w B0 (PM z).L.length (PM z).L) (h10 : Kd.C k65 w E0 (PM z).D.length (PM z).D) (j9 : Kd.C k58 w B1 (PM z').L.length (PM z').L) (j10 : Kd.C k65 w E1 (PM z').D.length (PM z').D) :
  Calls Tryd.prog 12 #[.agg #[.bool (flagB z.f0 1), .bool (flagB z.f0 2), .int .u8 3, .int .u8 0, .string ⟨#[]⟩, .int .u64 1, .int .u64 243, .int .u64 16, .int .u64 5, .int .u64 1, .slice B0 (PM z).L.length d0, .slice E0 (PM z).D.length e0], .agg #[.bool (flagB z'.f0 1), .bool (flagB z'.f0 2), .int .u8 3, .int .u8 0, .string ⟨#[]⟩, .int .u64 1, .int .u64 243, .int .u64 16, .int .u64 5, .int .u64 1, .slice B1 (PM z').L.length d1, .slice E1 (PM z').D.length e1]] w fun e w' => e = .returned (.string (diffR (PM z) (PM z'))) ∧ Below w.heap.size w w' :=
 diff_any (PM z) (PM z') (Nat.le_trans (planM_L _ _ _ _ _) (by decide)) (Nat.le_trans (planM_D _ _ _ _ _) (by decide)) B0 E0 B1 E1 d0 e0 d1 e1 w h9 h10 j9 j10
theorem models_t (z z' : S27) (B0 E0 B1 E1 : Option Addr) (d0 e0 d1 e1 : Nat) (w : World) (h9 : Kd.C k58 w B0 (PM z).L.length (PM z).L) (h10 : Kd.C k65 w E0 (PM z).D.length (PM z).D) (j9 : Kd.C k58 w B1 (PM z').L.length (PM z').L) (j10 : Kd.C k65 w E1 (PM z').D.length (PM z').D) :
  Calls Tryd.prog 10 #[.agg #[.bool (flagB z.f0 1), .bool (flagB z.f0 2), .int .u8 3, .int .u8 0, .string ⟨#[]⟩, .int .u64 1, .int .u64 243, .int .u64 16, .int .u64 5, .int .u64 1, .slice B0 (PM z).L.length d0, .slice E0 (PM z).D.length e0], .agg #[.bool (flagB z'.f0 1), .bool (flagB z'.f0 2), .int .u8 3, .int .u8 0, .string ⟨#[]⟩, .int .u64 1, .int .u64 243, .int .u64 16, .int .u64 5, .int .u64 1, .slice B1 (PM z').L.length d1, .slice E1 (PM z').D.length e1]] w fun e w' => e = .returned (.bool (eqC (diffR (PM z) (PM z')) ⟨#[]⟩)) ∧ Below w.heap.size w w' :=
 models_any (PM z) (PM z') (Nat.le_trans (planM_L _ _ _ _ _) (by decide)) (Nat.le_trans (planM_D _ _ _ _ _) (by decide)) B0 E0 B1 E1 d0 e0 d1 e1 w h9 h10 j9 j10
theorem diffS_t (z : S27) (n0 : ByteArray) (hn : n0 = ⟨#[]⟩) (B0 E0 : Option Addr) (d0 e0 : Nat) (w : World) (h9 : Kd.C k58 w B0 (PM z).L.length (PM z).L) (h10 : Kd.C k65 w E0 (PM z).D.length (PM z).D) :
  Calls Tryd.prog 12 #[.agg #[.bool (flagB z.f0 1), .bool (flagB z.f0 2), .int .u8 3, .int .u8 0, .string ⟨#[]⟩, .int .u64 1, .int .u64 243, .int .u64 16, .int .u64 5, .int .u64 1, .slice B0 (PM z).L.length d0, .slice E0 (PM z).D.length e0], .agg #[.bool (flagB z.f0 1), .bool (flagB z.f0 2), .int .u8 3, .int .u8 0, .string ⟨#[]⟩, .int .u64 1, .int .u64 243, .int .u64 16, .int .u64 5, .int .u64 1, .slice B0 (PM z).L.length d0, .slice E0 (PM z).D.length e0]] w fun e w' => e = .returned (.string n0) ∧ Below w.heap.size w w' := by
 refine (diff_t z z B0 E0 B0 E0 d0 e0 d0 e0 w h9 h10 h9 h10).mono ?_
 rintro e w' ⟨rfl, hb⟩
 rw [diffR_nil.2 (eqM_refl _), hn]
 exact ⟨rfl, hb⟩
set_option maxRecDepth 100000 in
set_option maxHeartbeats 32000000 in
theorem steps_walk (z0 z1 z2 : S27) (hz0 : okP z0) (hz1 : okP z1) (hz2 : okP z2) (cs0 cs1 cs2 : List Value) (w : World) (h0 : k27.K w z0 cs0) (h1 : k27.K w z1 cs1) (h2 : k27.K w z2 cs2) :
  Calls Tryd.prog 4 #[.agg cs0.toArray, .agg cs1.toArray, .agg cs2.toArray] w fun e w' => e = .returned (.bool true) ∧ Below w.heap.size w w' := by
 obtain ⟨a01, c01, a02, c02, a03, c03, a04, c04, rfl, g1, g2, g3, g4⟩ := k27_open h0
 have H01 := Lib.hid g1
 have H02 := Lib.hid g2
 have H03 := Lib.hid g3
 have H04 := Lib.hid g4
 clear g1 g2 g3 g4
 obtain ⟨a11, c11, a12, c12, a13, c13, a14, c14, rfl, g1, g2, g3, g4⟩ := k27_open h1
 have H11 := Lib.hid g1
 have H12 := Lib.hid g2
 have H13 := Lib.hid g3
 have H14 := Lib.hid g4
 clear g1 g2 g3 g4
 obtain ⟨a21, c21, a22, c22, a23, c23, a24, c24, rfl, g1, g2, g3, g4⟩ := k27_open h2
 have H21 := Lib.hid g1
 have H22 := Lib.hid g2
 have H23 := Lib.hid g3
 have H24 := Lib.hid g4
 clear g1 g2 g3 g4
 go_enter Tryd.func4, Tryd.ntmps4
 go_upto_region 3 with (first | (go_at_call 7; refine (speaks_any _).mono ?_; rintro e w1 ⟨rfl, hb1⟩; have HB1 := Lib.hid hb1; clear hb1))
 have HP1 := Lib.hid (show (w1.heap[w.heap.size]? = some (.cells #[.int .i64 z0.f0, .slice a01 z0.f1.length c01, .slice a02 z0.f2.length c02, .slice a03 z0.f3.length c03, .slice a04 z0.f4.length c04] 27 (0, 0)) ∧ w1.heap[w.heap.size + 1]? = some (.cells #[.int .i64 z1.f0, .slice a11 z1.f1.length c11, .slice a12 z1.f2.length c12, .slice a13 z1.f3.length c13, .slice a14 z1.f4.length c14] 27 (0, 0)) ∧ w1.heap[w.heap.size + 2]? = some (.cells #[.int .i64 z2.f0, .slice a21 z2.f1.length c21, .slice a22 z2.f2.length c22, .slice a23 z2.f3.length c23, .slice a24 z2.f4.length c24] 27 (0, 0))) ∧ Below w.heap.size w w1 from by
  have h0 := blk_new w (.cells #[.int .i64 z0.f0, .slice a01 z0.f1.length c01, .slice a02 z0.f2.length c02, .slice a03 z0.f3.length c03, .slice a04 z0.f4.length c04] 27)
  have h1 := blk_new (w.alloc (.cells #[.int .i64 z0.f0, .slice a01 z0.f1.length c01, .slice a02 z0.f2.length c02, .slice a03 z0.f3.length c03, .slice a04 z0.f4.length c04] 27)) (.cells #[.int .i64 z1.f0, .slice a11 z1.f1.length c11, .slice a12 z1.f2.length c12, .slice a13 z1.f3.length c13, .slice a14 z1.f4.length c14] 27)
  have h2 := blk_new ((w.alloc (.cells #[.int .i64 z0.f0, .slice a01 z0.f1.length c01, .slice a02 z0.f2.length c02, .slice a03 z0.f3.length c03, .slice a04 z0.f4.length c04] 27)).alloc (.cells #[.int .i64 z1.f0, .slice a11 z1.f1.length c11, .slice a12 z1.f2.length c12, .slice a13 z1.f3.length c13, .slice a14 z1.f4.length c14] 27)) (.cells #[.int .i64 z2.f0, .slice a21 z2.f1.length c21, .slice a22 z2.f2.length c22, .slice a23 z2.f3.length c23, .slice a24 z2.f4.length c24] 27)
  rw [World.size_alloc] at h1
  rw [World.size_alloc] at h2; rw [World.size_alloc] at h2
  exact ⟨⟨blk_below (blk_alloc (blk_alloc h0 _) _) HB1.out, blk_below (blk_alloc h1 _) HB1.out, blk_below h2 HB1.out⟩, ((below_alloc (below_alloc (below_alloc (Below.refl w.heap.size w) _) _) _) : Below w.heap.size w _).trans (HB1.out.mono (by simp; omega))⟩)
 clear HB1
 have HPd := Lib.hid (show (w1.drew.heap[w.heap.size]? = some (.cells #[.int .i64 z0.f0, .slice a01 z0.f1.length c01, .slice a02 z0.f2.length c02, .slice a03 z0.f3.length c03, .slice a04 z0.f4.length c04] 27 (0, 0)) ∧ w1.drew.heap[w.heap.size + 1]? = some (.cells #[.int .i64 z1.f0, .slice a11 z1.f1.length c11, .slice a12 z1.f2.length c12, .slice a13 z1.f3.length c13, .slice a14 z1.f4.length c14] 27 (0, 0)) ∧ w1.drew.heap[w.heap.size + 2]? = some (.cells #[.int .i64 z2.f0, .slice a21 z2.f1.length c21, .slice a22 z2.f2.length c22, .slice a23 z2.f3.length c23, .slice a24 z2.f4.length c24] 27 (0, 0))) ∧ Below w.heap.size w w1.drew from ⟨⟨blk_drew HP1.out.1.1, blk_drew HP1.out.1.2.1, blk_drew HP1.out.1.2.2⟩, below_drew1 HP1.out.2⟩)
 refine start_ (n := 15) (S := fun w' => w'.heap[w.heap.size]? = some (.cells #[.int .i64 z0.f0, .slice a01 z0.f1.length c01, .slice a02 z0.f2.length c02, .slice a03 z0.f3.length c03, .slice a04 z0.f4.length c04] 27 (0, 0)) ∧ w'.heap[w.heap.size + 1]? = some (.cells #[.int .i64 z1.f0, .slice a11 z1.f1.length c11, .slice a12 z1.f2.length c12, .slice a13 z1.f3.length c13, .slice a14 z1.f4.length c14] 27 (0, 0)) ∧ w'.heap[w.heap.size + 2]? = some (.cells #[.int .i64 z2.f0, .slice a21 z2.f1.length c21, .slice a22 z2.f2.length c22, .slice a23 z2.f3.length c23, .slice a24 z2.f4.length c24] 27 (0, 0))) (ds := [12, 13, 14]) #[false, false, false, false, false, false, false, false, false, false, false, false, false, false, false] (by kernel_rfl) (by rfl) (by rfl) HPd.out.1 (fun hHeld => ?_)
 generalize w1.drew = wd at HPd hHeld ⊢
 clear HP1
 refine take_ (i := 0) (N := some 12) (v := ?_) (a' := ?_) #[true, false, false, false, false, false, false, false, false, false, false, false, false, false, false] rfl rfl (by kernel_rfl) (fun _ _ _ h => h) (Or.inl ⟨by rfl, ?_⟩) hHeld ?_ ?_
 rotate_left
 ·rintro w' ⟨s0, s1, s2⟩
  have x_0 := blk_cell s0 0
  have x_1 := blk_cell s0 1
  have x_2 := blk_cell s0 2
  have x_3 := blk_cell s0 3
  have x_4 := blk_cell s0 4
  have y_0 := blk_cell s1 0
  have y_1 := blk_cell s1 1
  have y_2 := blk_cell s1 2
  have y_3 := blk_cell s1 3
  have y_4 := blk_cell s1 4
  have z_0 := blk_cell s2 0
  have z_1 := blk_cell s2 1
  have z_2 := blk_cell s2 2
  have z_3 := blk_cell s2 3
  have z_4 := blk_cell s2 4
  simp only [gA_, gB_, gC_] at x_0 x_1 x_2 x_3 x_4 y_0 y_1 y_2 y_3 y_4 z_0 z_1 z_2 z_3 z_4
  go_simp
  with_reducible rfl
 rotate_left
 ·simp only [Act.put, pA_, pB_, pC_]
  rfl
 refine take_ (i := 3) (N := some 15) (v := ?_) (a' := ?_) #[true, false, false, true, false, false, false, false, false, false, false, false, false, false, false] rfl rfl (by kernel_rfl) (fun _ _ _ h => h) (Or.inl ⟨by rfl, ?_⟩) hHeld ?_ ?_
 rotate_left
 ·rintro w' ⟨s0, s1, s2⟩
  have x_0 := blk_cell s0 0
  have x_1 := blk_cell s0 1
  have x_2 := blk_cell s0 2
  have x_3 := blk_cell s0 3
  have x_4 := blk_cell s0 4
  have y_0 := blk_cell s1 0
  have y_1 := blk_cell s1 1
  have y_2 := blk_cell s1 2
  have y_3 := blk_cell s1 3
  have y_4 := blk_cell s1 4
  have z_0 := blk_cell s2 0
  have z_1 := blk_cell s2 1
  have z_2 := blk_cell s2 2
  have z_3 := blk_cell s2 3
  have z_4 := blk_cell s2 4
  simp only [gA_, gB_, gC_] at x_0 x_1 x_2 x_3 x_4 y_0 y_1 y_2 y_3 y_4 z_0 z_1 z_2 z_3 z_4
  go_simp
  with_reducible rfl
 rotate_left
 ·simp only [Act.put, pA_, pB_, pC_]
  rfl
 refine take_ (i := 6) (N := some 18) (v := ?_) (a' := ?_) #[true, false, false, true, false, false, true, false, false, false, false, false, false, false, false] rfl rfl (by kernel_rfl) (fun _ _ _ h => h) (Or.inl ⟨by rfl, ?_⟩) hHeld ?_ ?_
 rotate_left
 ·rintro w' ⟨s0, s1, s2⟩
  have x_0 := blk_cell s0 0
  have x_1 := blk_cell s0 1
  have x_2 := blk_cell s0 2
  have x_3 := blk_cell s0 3
  have x_4 := blk_cell s0 4
  have y_0 := blk_cell s1 0
  have y_1 := blk_cell s1 1
  have y_2 := blk_cell s1 2
  have y_3 := blk_cell s1 3
  have y_4 := blk_cell s1 4
  have z_0 := blk_cell s2 0
  have z_1 := blk_cell s2 1
  have z_2 := blk_cell s2 2
  have z_3 := blk_cell s2 3
  have z_4 := blk_cell s2 4
  simp only [gA_, gB_, gC_] at x_0 x_1 x_2 x_3 x_4 y_0 y_1 y_2 y_3 y_4 z_0 z_1 z_2 z_3 z_4
  go_simp
  with_reducible rfl
 rotate_left
 ·simp only [Act.put, pA_, pB_, pC_]
  rfl
 have hm0 : #[true, false, false, true, false, false, true, false, false, false, false, false, false, false, false] = maskF 15 [0, 3, 6] [1, 2, 4, 5, 7, 8] [9, 10, 11] 0 [false, false, false] := by kernel_rfl
 rw [hm0]
 clear hm0 hHeld
 refine floats0 15 [0, 3, 6] [1, 2, 4, 5, 7, 8] [9, 10, 11] (by kernel_rfl) (fun a0 c b a w' => ∃ (u7 u8 u9 x13 x14 x16 x17 x19 x20 : Value) (g7 g8 g9 : Nat), a = Go.Proofs.YthphhogljniofaaDoorW.PrintLast.putAll a0 [(7, u7), (8, u8), (9, u9), (13, x13), (14, x14), (16, x16), (17, x17), (19, x19), (20, x20)] ∧ ((w'.heap[w.heap.size]? = some (.cells #[.int .i64 z0.f0, .slice a01 z0.f1.length c01, .slice a02 z0.f2.length c02, .slice a03 z0.f3.length c03, .slice a04 z0.f4.length c04] 27 (0, 0)) ∧ w'.heap[w.heap.size + 1]? = some (.cells #[.int .i64 z1.f0, .slice a11 z1.f1.length c11, .slice a12 z1.f2.length c12, .slice a13 z1.f3.length c13, .slice a14 z1.f4.length c14] 27 (0, 0)) ∧ w'.heap[w.heap.size + 2]? = some (.cells #[.int .i64 z2.f0, .slice a21 z2.f1.length c21, .slice a22 z2.f2.length c22, .slice a23 z2.f3.length c23, .slice a24 z2.f4.length c24] 27 (0, 0))) ∧ Below w.heap.size w w') ∧ ((c = 1 → MDv z0 w' x13) ∧ (2 ≤ c → TDv z0 w' x14) ∧ (c = 3 → MDv z1 w' x16) ∧ (4 ≤ c → TDv z1 w' x17) ∧ (c = 5 → MDv z2 w' x19) ∧ (6 ≤ c → TDv z2 w' x20)) ∧ (FLt w w' b[0]? u7 g7 ∧ FLt w w' b[1]? u8 g8 ∧ FLt w w' b[2]? u9 g9) ∧ ((b[0]? = some true → b[1]? = some true → g7 ≠ g8) ∧ (b[0]? = some true → b[2]? = some true → g7 ≠ g9) ∧ (b[1]? = some true → b[2]? = some true → g8 ≠ g9))) ?hSt ?hmain ?hfl 3 ?hend 9 [false, false, false] rfl rfl ?h0
 case hSt => rintro c b a w' ⟨u7, u8, u9, x13, x14, x16, x17, x19, x20, g7, g8, g9, _, h1, _⟩; exact h1.1
 case h0 => exact ⟨undef, undef, undef, undef, undef, undef, undef, undef, undef, 0, 0, 0, by simp only [Go.Proofs.YthphhogljniofaaDoorW.PrintLast.putAll, Act.put, pA_, pB_, pC_], HPd.out, ⟨(by intro h; omega), (by intro h; omega), (by intro h; omega), (by intro h; omega), (by intro h; omega), (by intro h; omega)⟩, ⟨(by intro h; cases h), (by intro h; cases h), (by intro h; cases h)⟩, ⟨(by intro h; cases h), (by intro h; cases h), (by intro h; cases h)⟩⟩
 case hmain =>
  intro c i b a w' hi hst
  rcases c with _ | _ | _ | _ | _ | _ | c
  ·obtain rfl : 1 = i := by simpa using hi
   obtain ⟨u7, u8, u9, x13, x14, x16, x17, x19, x20, g7, g8, g9, rfl, ⟨hP, hB⟩, ⟨hc0, hc1, hc2, hc3, hc4, hc5⟩, ⟨hf0, hf1, hf2⟩, ⟨hn0, hn1, hn2⟩⟩ := hst
   simp only [Go.Proofs.YthphhogljniofaaDoorW.PrintLast.putAll, Act.put, pA_, pB_, pC_]
   refine op_step (N := some 13) rfl rfl (fun K hK => ?_)
   refine goes_ (N := some 13) Tryd.func9 (by kernel_rfl) rfl #[.agg #[.int .i64 z0.f0, .slice a01 z0.f1.length c01, .slice a02 z0.f2.length c02, .slice a03 z0.f3.length c03, .slice a04 z0.f4.length c04]] (by rfl) rfl rfl (by first | rfl | (simp only [List.map_toArray, List.map_cons, List.map_nil]; rfl)) ?_
   refine (made_z z0 hz0 _ _ _ _ _ _ _ _ w' (Kd.C_below H01.out hB) (Kd.C_below H02.out hB) (Kd.C_below H03.out hB) (Kd.C_below H04.out hB)).mono ?_
   rintro e w2 ⟨v, rfl, hM, hB2⟩
   refine ⟨_, rfl, hK _ _ ⟨u7, u8, u9, v, x14, x16, x17, x19, x20, g7, g8, g9, by simp only [Go.Proofs.YthphhogljniofaaDoorW.PrintLast.putAll, Act.put, pA_, pB_, pC_], ⟨⟨blk_below hP.1 hB2, blk_below hP.2.1 hB2, blk_below hP.2.2 hB2⟩, hB.trans (hB2.mono hB.size)⟩, ⟨(fun _ => hM), (fun h => absurd h (by omega)), (fun h => absurd h (by omega)), (fun h => absurd h (by omega)), (fun h => absurd h (by omega)), (fun h => absurd h (by omega))⟩, ⟨hf0.below hB2, hf1.below hB2, hf2.below hB2⟩, ⟨hn0, hn1, hn2⟩⟩⟩
  ·obtain rfl : 2 = i := by simpa using hi
   obtain ⟨u7, u8, u9, x13, x14, x16, x17, x19, x20, g7, g8, g9, rfl, ⟨hP, hB⟩, ⟨hc0, hc1, hc2, hc3, hc4, hc5⟩, ⟨hf0, hf1, hf2⟩, ⟨hn0, hn1, hn2⟩⟩ := hst
   simp only [Go.Proofs.YthphhogljniofaaDoorW.PrintLast.putAll, Act.put, pA_, pB_, pC_]
   refine op_step (N := some 14) rfl rfl (fun K hK => ?_)
   refine goes_ (N := some 14) Tryd.func8 (by kernel_rfl) rfl #[x13] (by rfl) rfl rfl (by first | rfl | (simp only [List.map_toArray, List.map_cons, List.map_nil]; rfl)) ?_
   refine (told_z z0 x13 w' (hc0 rfl)).mono ?_
   rintro e w2 ⟨v, rfl, hM, hB2⟩
   refine ⟨_, rfl, hK _ _ ⟨u7, u8, u9, x13, v, x16, x17, x19, x20, g7, g8, g9, by simp only [Go.Proofs.YthphhogljniofaaDoorW.PrintLast.putAll, Act.put, pA_, pB_, pC_], ⟨⟨blk_below hP.1 hB2, blk_below hP.2.1 hB2, blk_below hP.2.2 hB2⟩, hB.trans (hB2.mono hB.size)⟩, ⟨(fun h => absurd h (by omega)), (fun _ => hM), (fun h => absurd h (by omega)), (fun h => absurd h (by omega)), (fun h => absurd h (by omega)), (fun h => absurd h (by omega))⟩, ⟨hf0.below hB2, hf1.below hB2, hf2.below hB2⟩, ⟨hn0, hn1, hn2⟩⟩⟩
  ·obtain rfl : 4 = i := by simpa using hi
   obtain ⟨u7, u8, u9, x13, x14, x16, x17, x19, x20, g7, g8, g9, rfl, ⟨hP, hB⟩, ⟨hc0, hc1, hc2, hc3, hc4, hc5⟩, ⟨hf0, hf1, hf2⟩, ⟨hn0, hn1, hn2⟩⟩ := hst
   simp only [Go.Proofs.YthphhogljniofaaDoorW.PrintLast.putAll, Act.put, pA_, pB_, pC_]
   refine op_step (N := some 16) rfl rfl (fun K hK => ?_)
   refine goes_ (N := some 16) Tryd.func9 (by kernel_rfl) rfl #[.agg #[.int .i64 z1.f0, .slice a11 z1.f1.length c11, .slice a12 z1.f2.length c12, .slice a13 z1.f3.length c13, .slice a14 z1.f4.length c14]] (by rfl) rfl rfl (by first | rfl | (simp only [List.map_toArray, List.map_cons, List.map_nil]; rfl)) ?_
   refine (made_z z1 hz1 _ _ _ _ _ _ _ _ w' (Kd.C_below H11.out hB) (Kd.C_below H12.out hB) (Kd.C_below H13.out hB) (Kd.C_below H14.out hB)).mono ?_
   rintro e w2 ⟨v, rfl, hM, hB2⟩
   refine ⟨_, rfl, hK _ _ ⟨u7, u8, u9, x13, x14, v, x17, x19, x20, g7, g8, g9, by simp only [Go.Proofs.YthphhogljniofaaDoorW.PrintLast.putAll, Act.put, pA_, pB_, pC_], ⟨⟨blk_below hP.1 hB2, blk_below hP.2.1 hB2, blk_below hP.2.2 hB2⟩, hB.trans (hB2.mono hB.size)⟩, ⟨(fun h => absurd h (by omega)), (fun h => (hc1 (by omega)).below hB2), (fun _ => hM), (fun h => absurd h (by omega)), (fun h => absurd h (by omega)), (fun h => absurd h (by omega))⟩, ⟨hf0.below hB2, hf1.below hB2, hf2.below hB2⟩, ⟨hn0, hn1, hn2⟩⟩⟩
  ·obtain rfl : 5 = i := by simpa using hi
   obtain ⟨u7, u8, u9, x13, x14, x16, x17, x19, x20, g7, g8, g9, rfl, ⟨hP, hB⟩, ⟨hc0, hc1, hc2, hc3, hc4, hc5⟩, ⟨hf0, hf1, hf2⟩, ⟨hn0, hn1, hn2⟩⟩ := hst
   simp only [Go.Proofs.YthphhogljniofaaDoorW.PrintLast.putAll, Act.put, pA_, pB_, pC_]
   refine op_step (N := some 17) rfl rfl (fun K hK => ?_)
   refine goes_ (N := some 17) Tryd.func8 (by kernel_rfl) rfl #[x16] (by rfl) rfl rfl (by first | rfl | (simp only [List.map_toArray, List.map_cons, List.map_nil]; rfl)) ?_
   refine (told_z z1 x16 w' (hc2 rfl)).mono ?_
   rintro e w2 ⟨v, rfl, hM, hB2⟩
   refine ⟨_, rfl, hK _ _ ⟨u7, u8, u9, x13, x14, x16, v, x19, x20, g7, g8, g9, by simp only [Go.Proofs.YthphhogljniofaaDoorW.PrintLast.putAll, Act.put, pA_, pB_, pC_], ⟨⟨blk_below hP.1 hB2, blk_below hP.2.1 hB2, blk_below hP.2.2 hB2⟩, hB.trans (hB2.mono hB.size)⟩, ⟨(fun h => absurd h (by omega)), (fun h => (hc1 (by omega)).below hB2), (fun h => absurd h (by omega)), (fun _ => hM), (fun h => absurd h (by omega)), (fun h => absurd h (by omega))⟩, ⟨hf0.below hB2, hf1.below hB2, hf2.below hB2⟩, ⟨hn0, hn1, hn2⟩⟩⟩
  ·obtain rfl : 7 = i := by simpa using hi
   obtain ⟨u7, u8, u9, x13, x14, x16, x17, x19, x20, g7, g8, g9, rfl, ⟨hP, hB⟩, ⟨hc0, hc1, hc2, hc3, hc4, hc5⟩, ⟨hf0, hf1, hf2⟩, ⟨hn0, hn1, hn2⟩⟩ := hst
   simp only [Go.Proofs.YthphhogljniofaaDoorW.PrintLast.putAll, Act.put, pA_, pB_, pC_]
   refine op_step (N := some 19) rfl rfl (fun K hK => ?_)
   refine goes_ (N := some 19) Tryd.func9 (by kernel_rfl) rfl #[.agg #[.int .i64 z2.f0, .slice a21 z2.f1.length c21, .slice a22 z2.f2.length c22, .slice a23 z2.f3.length c23, .slice a24 z2.f4.length c24]] (by rfl) rfl rfl (by first | rfl | (simp only [List.map_toArray, List.map_cons, List.map_nil]; rfl)) ?_
   refine (made_z z2 hz2 _ _ _ _ _ _ _ _ w' (Kd.C_below H21.out hB) (Kd.C_below H22.out hB) (Kd.C_below H23.out hB) (Kd.C_below H24.out hB)).mono ?_
   rintro e w2 ⟨v, rfl, hM, hB2⟩
   refine ⟨_, rfl, hK _ _ ⟨u7, u8, u9, x13, x14, x16, x17, v, x20, g7, g8, g9, by simp only [Go.Proofs.YthphhogljniofaaDoorW.PrintLast.putAll, Act.put, pA_, pB_, pC_], ⟨⟨blk_below hP.1 hB2, blk_below hP.2.1 hB2, blk_below hP.2.2 hB2⟩, hB.trans (hB2.mono hB.size)⟩, ⟨(fun h => absurd h (by omega)), (fun h => (hc1 (by omega)).below hB2), (fun h => absurd h (by omega)), (fun h => (hc3 (by omega)).below hB2), (fun _ => hM), (fun h => absurd h (by omega))⟩, ⟨hf0.below hB2, hf1.below hB2, hf2.below hB2⟩, ⟨hn0, hn1, hn2⟩⟩⟩
  ·obtain rfl : 8 = i := by simpa using hi
   obtain ⟨u7, u8, u9, x13, x14, x16, x17, x19, x20, g7, g8, g9, rfl, ⟨hP, hB⟩, ⟨hc0, hc1, hc2, hc3, hc4, hc5⟩, ⟨hf0, hf1, hf2⟩, ⟨hn0, hn1, hn2⟩⟩ := hst
   simp only [Go.Proofs.YthphhogljniofaaDoorW.PrintLast.putAll, Act.put, pA_, pB_, pC_]
   refine op_step (N := some 20) rfl rfl (fun K hK => ?_)
   refine goes_ (N := some 20) Tryd.func8 (by kernel_rfl) rfl #[x19] (by rfl) rfl rfl (by first | rfl | (simp only [List.map_toArray, List.map_cons, List.map_nil]; rfl)) ?_
   refine (told_z z2 x19 w' (hc4 rfl)).mono ?_
   rintro e w2 ⟨v, rfl, hM, hB2⟩
   refine ⟨_, rfl, hK _ _ ⟨u7, u8, u9, x13, x14, x16, x17, x19, v, g7, g8, g9, by simp only [Go.Proofs.YthphhogljniofaaDoorW.PrintLast.putAll, Act.put, pA_, pB_, pC_], ⟨⟨blk_below hP.1 hB2, blk_below hP.2.1 hB2, blk_below hP.2.2 hB2⟩, hB.trans (hB2.mono hB.size)⟩, ⟨(fun h => absurd h (by omega)), (fun h => (hc1 (by omega)).below hB2), (fun h => absurd h (by omega)), (fun h => (hc3 (by omega)).below hB2), (fun h => absurd h (by omega)), (fun _ => hM)⟩, ⟨hf0.below hB2, hf1.below hB2, hf2.below hB2⟩, ⟨hn0, hn1, hn2⟩⟩⟩
  ·simp at hi
 case hfl =>
  intro c j i b a w' hi hbl hbj hst
  obtain ⟨b0, b1, b2, rfl⟩ : ∃ b0 b1 b2, b = [b0, b1, b2] := by
   match b, hbl with
   |[b0, b1, b2], _ => exact ⟨b0, b1, b2, rfl⟩
  rcases j with _ | _ | _ | j
  ·obtain rfl : 9 = i := by simpa using hi
   obtain ⟨u7, u8, u9, x13, x14, x16, x17, x19, x20, g7, g8, g9, rfl, ⟨hP, hB⟩, ⟨hc0, hc1, hc2, hc3, hc4, hc5⟩, ⟨hf0, hf1, hf2⟩, ⟨hn0, hn1, hn2⟩⟩ := hst
   simp only [Go.Proofs.YthphhogljniofaaDoorW.PrintLast.putAll, Act.put, pA_, pB_, pC_]
   refine op_step (N := some 7) rfl rfl (fun K hK => ?_)
   refine value_ (N := some 7) (w1 := ?_) (v := ?_) (by rfl) rfl ?_ ?_
   rotate_left 2
   ·go_simp
    constructor
    ·rfl
    ·rfl
   refine hK _ _ ⟨.pointer (some ⟨w'.heap.size, 0, none⟩), u8, u9, x13, x14, x16, x17, x19, x20, w'.heap.size, g8, g9, by simp only [Go.Proofs.YthphhogljniofaaDoorW.PrintLast.putAll, Act.put, pA_, pB_, pC_], ⟨⟨blk_alloc hP.1 _, blk_alloc hP.2.1 _, blk_alloc hP.2.2 _⟩, below_alloc hB _⟩, ⟨(fun h => (hc0 h).below (below_alloc (Below.refl _ _) _)), (fun h => (hc1 h).below (below_alloc (Below.refl _ _) _)), (fun h => (hc2 h).below (below_alloc (Below.refl _ _) _)), (fun h => (hc3 h).below (below_alloc (Below.refl _ _) _)), (fun h => (hc4 h).below (below_alloc (Below.refl _ _) _)), (fun h => (hc5 h).below (below_alloc (Below.refl _ _) _))⟩, ⟨(fun _ => ⟨rfl, blk_new w' _, hB.size⟩), hf1.below (below_alloc (Below.refl _ _) _), hf2.below (below_alloc (Below.refl _ _) _)⟩, ⟨(fun _ h => (Nat.ne_of_lt (hf1.lt h)).symm), (fun _ h => (Nat.ne_of_lt (hf2.lt h)).symm), hn2⟩⟩
  ·obtain rfl : 10 = i := by simpa using hi
   obtain ⟨u7, u8, u9, x13, x14, x16, x17, x19, x20, g7, g8, g9, rfl, ⟨hP, hB⟩, ⟨hc0, hc1, hc2, hc3, hc4, hc5⟩, ⟨hf0, hf1, hf2⟩, ⟨hn0, hn1, hn2⟩⟩ := hst
   simp only [Go.Proofs.YthphhogljniofaaDoorW.PrintLast.putAll, Act.put, pA_, pB_, pC_]
   refine op_step (N := some 8) rfl rfl (fun K hK => ?_)
   refine value_ (N := some 8) (w1 := ?_) (v := ?_) (by rfl) rfl ?_ ?_
   rotate_left 2
   ·go_simp
    constructor
    ·rfl
    ·rfl
   refine hK _ _ ⟨u7, .pointer (some ⟨w'.heap.size, 0, none⟩), u9, x13, x14, x16, x17, x19, x20, g7, w'.heap.size, g9, by simp only [Go.Proofs.YthphhogljniofaaDoorW.PrintLast.putAll, Act.put, pA_, pB_, pC_], ⟨⟨blk_alloc hP.1 _, blk_alloc hP.2.1 _, blk_alloc hP.2.2 _⟩, below_alloc hB _⟩, ⟨(fun h => (hc0 h).below (below_alloc (Below.refl _ _) _)), (fun h => (hc1 h).below (below_alloc (Below.refl _ _) _)), (fun h => (hc2 h).below (below_alloc (Below.refl _ _) _)), (fun h => (hc3 h).below (below_alloc (Below.refl _ _) _)), (fun h => (hc4 h).below (below_alloc (Below.refl _ _) _)), (fun h => (hc5 h).below (below_alloc (Below.refl _ _) _))⟩, ⟨hf0.below (below_alloc (Below.refl _ _) _), (fun _ => ⟨rfl, blk_new w' _, hB.size⟩), hf2.below (below_alloc (Below.refl _ _) _)⟩, ⟨(fun h _ => Nat.ne_of_lt (hf0.lt h)), hn1, (fun _ h => (Nat.ne_of_lt (hf2.lt h)).symm)⟩⟩
  ·obtain rfl : 11 = i := by simpa using hi
   obtain ⟨u7, u8, u9, x13, x14, x16, x17, x19, x20, g7, g8, g9, rfl, ⟨hP, hB⟩, ⟨hc0, hc1, hc2, hc3, hc4, hc5⟩, ⟨hf0, hf1, hf2⟩, ⟨hn0, hn1, hn2⟩⟩ := hst
   simp only [Go.Proofs.YthphhogljniofaaDoorW.PrintLast.putAll, Act.put, pA_, pB_, pC_]
   refine op_step (N := some 9) rfl rfl (fun K hK => ?_)
   refine value_ (N := some 9) (w1 := ?_) (v := ?_) (by rfl) rfl ?_ ?_
   rotate_left 2
   ·go_simp
    constructor
    ·rfl
    ·rfl
   refine hK _ _ ⟨u7, u8, .pointer (some ⟨w'.heap.size, 0, none⟩), x13, x14, x16, x17, x19, x20, g7, g8, w'.heap.size, by simp only [Go.Proofs.YthphhogljniofaaDoorW.PrintLast.putAll, Act.put, pA_, pB_, pC_], ⟨⟨blk_alloc hP.1 _, blk_alloc hP.2.1 _, blk_alloc hP.2.2 _⟩, below_alloc hB _⟩, ⟨(fun h => (hc0 h).below (below_alloc (Below.refl _ _) _)), (fun h => (hc1 h).below (below_alloc (Below.refl _ _) _)), (fun h => (hc2 h).below (below_alloc (Below.refl _ _) _)), (fun h => (hc3 h).below (below_alloc (Below.refl _ _) _)), (fun h => (hc4 h).below (below_alloc (Below.refl _ _) _)), (fun h => (hc5 h).below (below_alloc (Below.refl _ _) _))⟩, ⟨hf0.below (below_alloc (Below.refl _ _) _), hf1.below (below_alloc (Below.refl _ _) _), (fun _ => ⟨rfl, blk_new w' _, hB.size⟩)⟩, ⟨hn0, (fun h _ => Nat.ne_of_lt (hf0.lt h)), (fun h _ => Nat.ne_of_lt (hf1.lt h))⟩⟩
  ·simp at hi
 case hend =>
  intro b a w' hbl hall hst
  obtain ⟨b0, b1, b2, rfl⟩ : ∃ b0 b1 b2, b = [b0, b1, b2] := by
   match b, hbl with
   |[b0, b1, b2], _ => exact ⟨b0, b1, b2, rfl⟩
  have hb3 : b0 = true ∧ b1 = true ∧ b2 = true := by simpa using hall
  obtain ⟨rfl, rfl, rfl⟩ := hb3
  obtain ⟨u7, u8, u9, x13, x14, x16, x17, x19, x20, g7, g8, g9, rfl, ⟨hP, hB⟩, ⟨hc0, hc1, hc2, hc3, hc4, hc5⟩, ⟨hf0, hf1, hf2⟩, ⟨hn0, hn1, hn2⟩⟩ := hst
  obtain ⟨B0, d0, E0, e0, rfl, hC0, hD0⟩ := hc1 (by decide)
  obtain ⟨B1, d1, E1, e1, rfl, hC1, hD1⟩ := hc3 (by decide)
  obtain ⟨B2, d2, E2, e2, rfl, hC2, hD2⟩ := hc5 (by decide)
  obtain ⟨rfl, hY0, hG0⟩ := hf0 rfl
  obtain ⟨rfl, hY1, hG1⟩ := hf1 rfl
  obtain ⟨rfl, hY2, hG2⟩ := hf2 rfl
  have hne01 := hn0 rfl rfl
  have hne02 := hn1 rfl rfl
  have hne12 := hn2 rfl rfl
  clear hall hbl hc0 hc2 hc4 hn0 hn1 hn2
  have hm1 : maskF 15 [0, 3, 6] [1, 2, 4, 5, 7, 8] [9, 10, 11] 6 [true, true, true] = #[true, true, true, true, true, true, true, true, true, true, true, true, false, false, false] := by kernel_rfl
  refine Eq.mpr (congrArg (fun l => wpAnyLast _ _ _ _ _ _ _ l _ _) hm1) ?_
  clear hm1
  simp only [Go.Proofs.YthphhogljniofaaDoorW.PrintLast.putAll, Act.put, pA_, pB_, pC_]
  have h0 := blk_cell hY0 0
  have f0 := blk_frozen hY0 0
  have h1 := blk_cell hY0 1
  have f1 := blk_frozen hY0 1
  have h2 := blk_cell hY0 2
  have f2 := blk_frozen hY0 2
  have h3 := blk_cell hY0 3
  have f3 := blk_frozen hY0 3
  have h4 := blk_cell hY0 4
  have f4 := blk_frozen hY0 4
  have h5 := blk_cell hY0 5
  have f5 := blk_frozen hY0 5
  have h6 := blk_cell hY0 6
  have f6 := blk_frozen hY0 6
  have h7 := blk_cell hY0 7
  have f7 := blk_frozen hY0 7
  have h8 := blk_cell hY0 8
  have f8 := blk_frozen hY0 8
  have h9 := blk_cell hY0 9
  have f9 := blk_frozen hY0 9
  have h10 := blk_cell hY0 10
  have f10 := blk_frozen hY0 10
  have h11 := blk_cell hY0 11
  have f11 := blk_frozen hY0 11
  simp only [gA_, gB_, gC_] at h0 h1 h2 h3 h4 h5 h6 h7 h8 h9 h10 h11
  obtain ⟨W0, hW0⟩ : ∃ W0, W0 = putAll w' g7 0 [.bool (flagB z0.f0 1), .bool (flagB z0.f0 2), .int .u8 3, .int .u8 0, .string ⟨#[]⟩, .int .u64 1, .int .u64 243, .int .u64 16, .int .u64 5, .int .u64 1, .slice B0 (PM z0).L.length d0, .slice E0 (PM z0).D.length e0] := ⟨_, rfl⟩
  have hZ0 := putAll_new (w := w') [.bool false, .bool false, .int .u8 0, .int .u8 0, .string ⟨#[]⟩, .int .u64 0, .int .u64 0, .int .u64 0, .int .u64 0, .int .u64 0, .slice none 0 0, .slice none 0 0] [.bool (flagB z0.f0 1), .bool (flagB z0.f0 2), .int .u8 3, .int .u8 0, .string ⟨#[]⟩, .int .u64 1, .int .u64 243, .int .u64 16, .int .u64 5, .int .u64 1, .slice B0 (PM z0).L.length d0, .slice E0 (PM z0).D.length e0] hY0 rfl
  rw [← hW0] at hZ0
  have hY1' := (putAll_far (w := w') (g := g7) hne01.symm [.bool (flagB z0.f0 1), .bool (flagB z0.f0 2), .int .u8 3, .int .u8 0, .string ⟨#[]⟩, .int .u64 1, .int .u64 243, .int .u64 16, .int .u64 5, .int .u64 1, .slice B0 (PM z0).L.length d0, .slice E0 (PM z0).D.length e0] 0 _).trans hY1
  rw [← hW0] at hY1'
  clear hY1
  have hY1 := hY1'
  clear hY1'
  have hY2' := (putAll_far (w := w') (g := g7) hne02.symm [.bool (flagB z0.f0 1), .bool (flagB z0.f0 2), .int .u8 3, .int .u8 0, .string ⟨#[]⟩, .int .u64 1, .int .u64 243, .int .u64 16, .int .u64 5, .int .u64 1, .slice B0 (PM z0).L.length d0, .slice E0 (PM z0).D.length e0] 0 _).trans hY2
  rw [← hW0] at hY2'
  clear hY2
  have hY2 := hY2'
  clear hY2'
  have hC0' := putAll_RT hC0 hY0 (by decide) [.bool (flagB z0.f0 1), .bool (flagB z0.f0 2), .int .u8 3, .int .u8 0, .string ⟨#[]⟩, .int .u64 1, .int .u64 243, .int .u64 16, .int .u64 5, .int .u64 1, .slice B0 (PM z0).L.length d0, .slice E0 (PM z0).D.length e0] 0
  rw [← hW0] at hC0'
  clear hC0
  have hC0 := hC0'
  clear hC0'
  have hD0' := putAll_RT hD0 hY0 (by decide) [.bool (flagB z0.f0 1), .bool (flagB z0.f0 2), .int .u8 3, .int .u8 0, .string ⟨#[]⟩, .int .u64 1, .int .u64 243, .int .u64 16, .int .u64 5, .int .u64 1, .slice B0 (PM z0).L.length d0, .slice E0 (PM z0).D.length e0] 0
  rw [← hW0] at hD0'
  clear hD0
  have hD0 := hD0'
  clear hD0'
  have hC1' := putAll_RT hC1 hY0 (by decide) [.bool (flagB z0.f0 1), .bool (flagB z0.f0 2), .int .u8 3, .int .u8 0, .string ⟨#[]⟩, .int .u64 1, .int .u64 243, .int .u64 16, .int .u64 5, .int .u64 1, .slice B0 (PM z0).L.length d0, .slice E0 (PM z0).D.length e0] 0
  rw [← hW0] at hC1'
  clear hC1
  have hC1 := hC1'
  clear hC1'
  have hD1' := putAll_RT hD1 hY0 (by decide) [.bool (flagB z0.f0 1), .bool (flagB z0.f0 2), .int .u8 3, .int .u8 0, .string ⟨#[]⟩, .int .u64 1, .int .u64 243, .int .u64 16, .int .u64 5, .int .u64 1, .slice B0 (PM z0).L.length d0, .slice E0 (PM z0).D.length e0] 0
  rw [← hW0] at hD1'
  clear hD1
  have hD1 := hD1'
  clear hD1'
  have hC2' := putAll_RT hC2 hY0 (by decide) [.bool (flagB z0.f0 1), .bool (flagB z0.f0 2), .int .u8 3, .int .u8 0, .string ⟨#[]⟩, .int .u64 1, .int .u64 243, .int .u64 16, .int .u64 5, .int .u64 1, .slice B0 (PM z0).L.length d0, .slice E0 (PM z0).D.length e0] 0
  rw [← hW0] at hC2'
  clear hC2
  have hC2 := hC2'
  clear hC2'
  have hD2' := putAll_RT hD2 hY0 (by decide) [.bool (flagB z0.f0 1), .bool (flagB z0.f0 2), .int .u8 3, .int .u8 0, .string ⟨#[]⟩, .int .u64 1, .int .u64 243, .int .u64 16, .int .u64 5, .int .u64 1, .slice B0 (PM z0).L.length d0, .slice E0 (PM z0).D.length e0] 0
  rw [← hW0] at hD2'
  clear hD2
  have hD2 := hD2'
  clear hD2'
  have hB0 := putAll_below hG0 [.bool (flagB z0.f0 1), .bool (flagB z0.f0 2), .int .u8 3, .int .u8 0, .string ⟨#[]⟩, .int .u64 1, .int .u64 243, .int .u64 16, .int .u64 5, .int .u64 1, .slice B0 (PM z0).L.length d0, .slice E0 (PM z0).D.length e0] 0 w' hB
  rw [← hW0] at hB0
  clear hB
  have hB := hB0
  clear hB0
  have hW0' := hW0
  simp only [putAll, Nat.reduceAdd] at hW0'
  clear hW0
  refine last_ (i := 12) (N := none) #[true, true, true, true, true, true, true, true, true, true, true, true, true, false, false] rfl rfl (by kernel_rfl) (by decide) (fun K hK => ?_)
  refine skip_ (w1 := ?_) (by rfl) rfl ?_ ?_
  rotate_left
  ·go_simp
   rfl
  refine hK.out _ _ ?_
  clear hK K
  rw [← hW0']
  clear hW0' h0 f0 h1 f1 h2 f2 h3 f3 h4 f4 h5 f5 h6 f6 h7 f7 h8 f8 h9 f9 h10 f10 h11 f11
  have h0 := blk_cell hY1 0
  have f0 := blk_frozen hY1 0
  have h1 := blk_cell hY1 1
  have f1 := blk_frozen hY1 1
  have h2 := blk_cell hY1 2
  have f2 := blk_frozen hY1 2
  have h3 := blk_cell hY1 3
  have f3 := blk_frozen hY1 3
  have h4 := blk_cell hY1 4
  have f4 := blk_frozen hY1 4
  have h5 := blk_cell hY1 5
  have f5 := blk_frozen hY1 5
  have h6 := blk_cell hY1 6
  have f6 := blk_frozen hY1 6
  have h7 := blk_cell hY1 7
  have f7 := blk_frozen hY1 7
  have h8 := blk_cell hY1 8
  have f8 := blk_frozen hY1 8
  have h9 := blk_cell hY1 9
  have f9 := blk_frozen hY1 9
  have h10 := blk_cell hY1 10
  have f10 := blk_frozen hY1 10
  have h11 := blk_cell hY1 11
  have f11 := blk_frozen hY1 11
  simp only [gA_, gB_, gC_] at h0 h1 h2 h3 h4 h5 h6 h7 h8 h9 h10 h11
  obtain ⟨W1, hW1⟩ : ∃ W1, W1 = putAll W0 g8 0 [.bool (flagB z1.f0 1), .bool (flagB z1.f0 2), .int .u8 3, .int .u8 0, .string ⟨#[]⟩, .int .u64 1, .int .u64 243, .int .u64 16, .int .u64 5, .int .u64 1, .slice B1 (PM z1).L.length d1, .slice E1 (PM z1).D.length e1] := ⟨_, rfl⟩
  have hZ1 := putAll_new (w := W0) [.bool false, .bool false, .int .u8 0, .int .u8 0, .string ⟨#[]⟩, .int .u64 0, .int .u64 0, .int .u64 0, .int .u64 0, .int .u64 0, .slice none 0 0, .slice none 0 0] [.bool (flagB z1.f0 1), .bool (flagB z1.f0 2), .int .u8 3, .int .u8 0, .string ⟨#[]⟩, .int .u64 1, .int .u64 243, .int .u64 16, .int .u64 5, .int .u64 1, .slice B1 (PM z1).L.length d1, .slice E1 (PM z1).D.length e1] hY1 rfl
  rw [← hW1] at hZ1
  have hZ0' := (putAll_far (w := W0) (g := g8) hne01 [.bool (flagB z1.f0 1), .bool (flagB z1.f0 2), .int .u8 3, .int .u8 0, .string ⟨#[]⟩, .int .u64 1, .int .u64 243, .int .u64 16, .int .u64 5, .int .u64 1, .slice B1 (PM z1).L.length d1, .slice E1 (PM z1).D.length e1] 0 _).trans hZ0
  rw [← hW1] at hZ0'
  clear hZ0
  have hZ0 := hZ0'
  clear hZ0'
  have hY2' := (putAll_far (w := W0) (g := g8) hne12.symm [.bool (flagB z1.f0 1), .bool (flagB z1.f0 2), .int .u8 3, .int .u8 0, .string ⟨#[]⟩, .int .u64 1, .int .u64 243, .int .u64 16, .int .u64 5, .int .u64 1, .slice B1 (PM z1).L.length d1, .slice E1 (PM z1).D.length e1] 0 _).trans hY2
  rw [← hW1] at hY2'
  clear hY2
  have hY2 := hY2'
  clear hY2'
  have hC0' := putAll_RT hC0 hY1 (by decide) [.bool (flagB z1.f0 1), .bool (flagB z1.f0 2), .int .u8 3, .int .u8 0, .string ⟨#[]⟩, .int .u64 1, .int .u64 243, .int .u64 16, .int .u64 5, .int .u64 1, .slice B1 (PM z1).L.length d1, .slice E1 (PM z1).D.length e1] 0
  rw [← hW1] at hC0'
  clear hC0
  have hC0 := hC0'
  clear hC0'
  have hD0' := putAll_RT hD0 hY1 (by decide) [.bool (flagB z1.f0 1), .bool (flagB z1.f0 2), .int .u8 3, .int .u8 0, .string ⟨#[]⟩, .int .u64 1, .int .u64 243, .int .u64 16, .int .u64 5, .int .u64 1, .slice B1 (PM z1).L.length d1, .slice E1 (PM z1).D.length e1] 0
  rw [← hW1] at hD0'
  clear hD0
  have hD0 := hD0'
  clear hD0'
  have hC1' := putAll_RT hC1 hY1 (by decide) [.bool (flagB z1.f0 1), .bool (flagB z1.f0 2), .int .u8 3, .int .u8 0, .string ⟨#[]⟩, .int .u64 1, .int .u64 243, .int .u64 16, .int .u64 5, .int .u64 1, .slice B1 (PM z1).L.length d1, .slice E1 (PM z1).D.length e1] 0
  rw [← hW1] at hC1'
  clear hC1
  have hC1 := hC1'
  clear hC1'
  have hD1' := putAll_RT hD1 hY1 (by decide) [.bool (flagB z1.f0 1), .bool (flagB z1.f0 2), .int .u8 3, .int .u8 0, .string ⟨#[]⟩, .int .u64 1, .int .u64 243, .int .u64 16, .int .u64 5, .int .u64 1, .slice B1 (PM z1).L.length d1, .slice E1 (PM z1).D.length e1] 0
  rw [← hW1] at hD1'
  clear hD1
  have hD1 := hD1'
  clear hD1'
  have hC2' := putAll_RT hC2 hY1 (by decide) [.bool (flagB z1.f0 1), .bool (flagB z1.f0 2), .int .u8 3, .int .u8 0, .string ⟨#[]⟩, .int .u64 1, .int .u64 243, .int .u64 16, .int .u64 5, .int .u64 1, .slice B1 (PM z1).L.length d1, .slice E1 (PM z1).D.length e1] 0
  rw [← hW1] at hC2'
  clear hC2
  have hC2 := hC2'
  clear hC2'
  have hD2' := putAll_RT hD2 hY1 (by decide) [.bool (flagB z1.f0 1), .bool (flagB z1.f0 2), .int .u8 3, .int .u8 0, .string ⟨#[]⟩, .int .u64 1, .int .u64 243, .int .u64 16, .int .u64 5, .int .u64 1, .slice B1 (PM z1).L.length d1, .slice E1 (PM z1).D.length e1] 0
  rw [← hW1] at hD2'
  clear hD2
  have hD2 := hD2'
  clear hD2'
  have hB1 := putAll_below hG1 [.bool (flagB z1.f0 1), .bool (flagB z1.f0 2), .int .u8 3, .int .u8 0, .string ⟨#[]⟩, .int .u64 1, .int .u64 243, .int .u64 16, .int .u64 5, .int .u64 1, .slice B1 (PM z1).L.length d1, .slice E1 (PM z1).D.length e1] 0 W0 hB
  rw [← hW1] at hB1
  clear hB
  have hB := hB1
  clear hB1
  have hW1' := hW1
  simp only [putAll, Nat.reduceAdd] at hW1'
  clear hW1
  refine last_ (i := 13) (N := none) #[true, true, true, true, true, true, true, true, true, true, true, true, true, true, false] rfl rfl (by kernel_rfl) (by decide) (fun K hK => ?_)
  refine skip_ (w1 := ?_) (by rfl) rfl ?_ ?_
  rotate_left
  ·go_simp
   rfl
  refine hK.out _ _ ?_
  clear hK K
  rw [← hW1']
  clear hW1' h0 f0 h1 f1 h2 f2 h3 f3 h4 f4 h5 f5 h6 f6 h7 f7 h8 f8 h9 f9 h10 f10 h11 f11
  have h0 := blk_cell hY2 0
  have f0 := blk_frozen hY2 0
  have h1 := blk_cell hY2 1
  have f1 := blk_frozen hY2 1
  have h2 := blk_cell hY2 2
  have f2 := blk_frozen hY2 2
  have h3 := blk_cell hY2 3
  have f3 := blk_frozen hY2 3
  have h4 := blk_cell hY2 4
  have f4 := blk_frozen hY2 4
  have h5 := blk_cell hY2 5
  have f5 := blk_frozen hY2 5
  have h6 := blk_cell hY2 6
  have f6 := blk_frozen hY2 6
  have h7 := blk_cell hY2 7
  have f7 := blk_frozen hY2 7
  have h8 := blk_cell hY2 8
  have f8 := blk_frozen hY2 8
  have h9 := blk_cell hY2 9
  have f9 := blk_frozen hY2 9
  have h10 := blk_cell hY2 10
  have f10 := blk_frozen hY2 10
  have h11 := blk_cell hY2 11
  have f11 := blk_frozen hY2 11
  simp only [gA_, gB_, gC_] at h0 h1 h2 h3 h4 h5 h6 h7 h8 h9 h10 h11
  obtain ⟨W2, hW2⟩ : ∃ W2, W2 = putAll W1 g9 0 [.bool (flagB z2.f0 1), .bool (flagB z2.f0 2), .int .u8 3, .int .u8 0, .string ⟨#[]⟩, .int .u64 1, .int .u64 243, .int .u64 16, .int .u64 5, .int .u64 1, .slice B2 (PM z2).L.length d2, .slice E2 (PM z2).D.length e2] := ⟨_, rfl⟩
  have hZ2 := putAll_new (w := W1) [.bool false, .bool false, .int .u8 0, .int .u8 0, .string ⟨#[]⟩, .int .u64 0, .int .u64 0, .int .u64 0, .int .u64 0, .int .u64 0, .slice none 0 0, .slice none 0 0] [.bool (flagB z2.f0 1), .bool (flagB z2.f0 2), .int .u8 3, .int .u8 0, .string ⟨#[]⟩, .int .u64 1, .int .u64 243, .int .u64 16, .int .u64 5, .int .u64 1, .slice B2 (PM z2).L.length d2, .slice E2 (PM z2).D.length e2] hY2 rfl
  rw [← hW2] at hZ2
  have hZ0' := (putAll_far (w := W1) (g := g9) hne02 [.bool (flagB z2.f0 1), .bool (flagB z2.f0 2), .int .u8 3, .int .u8 0, .string ⟨#[]⟩, .int .u64 1, .int .u64 243, .int .u64 16, .int .u64 5, .int .u64 1, .slice B2 (PM z2).L.length d2, .slice E2 (PM z2).D.length e2] 0 _).trans hZ0
  rw [← hW2] at hZ0'
  clear hZ0
  have hZ0 := hZ0'
  clear hZ0'
  have hZ1' := (putAll_far (w := W1) (g := g9) hne12 [.bool (flagB z2.f0 1), .bool (flagB z2.f0 2), .int .u8 3, .int .u8 0, .string ⟨#[]⟩, .int .u64 1, .int .u64 243, .int .u64 16, .int .u64 5, .int .u64 1, .slice B2 (PM z2).L.length d2, .slice E2 (PM z2).D.length e2] 0 _).trans hZ1
  rw [← hW2] at hZ1'
  clear hZ1
  have hZ1 := hZ1'
  clear hZ1'
  have hC0' := putAll_RT hC0 hY2 (by decide) [.bool (flagB z2.f0 1), .bool (flagB z2.f0 2), .int .u8 3, .int .u8 0, .string ⟨#[]⟩, .int .u64 1, .int .u64 243, .int .u64 16, .int .u64 5, .int .u64 1, .slice B2 (PM z2).L.length d2, .slice E2 (PM z2).D.length e2] 0
  rw [← hW2] at hC0'
  clear hC0
  have hC0 := hC0'
  clear hC0'
  have hD0' := putAll_RT hD0 hY2 (by decide) [.bool (flagB z2.f0 1), .bool (flagB z2.f0 2), .int .u8 3, .int .u8 0, .string ⟨#[]⟩, .int .u64 1, .int .u64 243, .int .u64 16, .int .u64 5, .int .u64 1, .slice B2 (PM z2).L.length d2, .slice E2 (PM z2).D.length e2] 0
  rw [← hW2] at hD0'
  clear hD0
  have hD0 := hD0'
  clear hD0'
  have hC1' := putAll_RT hC1 hY2 (by decide) [.bool (flagB z2.f0 1), .bool (flagB z2.f0 2), .int .u8 3, .int .u8 0, .string ⟨#[]⟩, .int .u64 1, .int .u64 243, .int .u64 16, .int .u64 5, .int .u64 1, .slice B2 (PM z2).L.length d2, .slice E2 (PM z2).D.length e2] 0
  rw [← hW2] at hC1'
  clear hC1
  have hC1 := hC1'
  clear hC1'
  have hD1' := putAll_RT hD1 hY2 (by decide) [.bool (flagB z2.f0 1), .bool (flagB z2.f0 2), .int .u8 3, .int .u8 0, .string ⟨#[]⟩, .int .u64 1, .int .u64 243, .int .u64 16, .int .u64 5, .int .u64 1, .slice B2 (PM z2).L.length d2, .slice E2 (PM z2).D.length e2] 0
  rw [← hW2] at hD1'
  clear hD1
  have hD1 := hD1'
  clear hD1'
  have hC2' := putAll_RT hC2 hY2 (by decide) [.bool (flagB z2.f0 1), .bool (flagB z2.f0 2), .int .u8 3, .int .u8 0, .string ⟨#[]⟩, .int .u64 1, .int .u64 243, .int .u64 16, .int .u64 5, .int .u64 1, .slice B2 (PM z2).L.length d2, .slice E2 (PM z2).D.length e2] 0
  rw [← hW2] at hC2'
  clear hC2
  have hC2 := hC2'
  clear hC2'
  have hD2' := putAll_RT hD2 hY2 (by decide) [.bool (flagB z2.f0 1), .bool (flagB z2.f0 2), .int .u8 3, .int .u8 0, .string ⟨#[]⟩, .int .u64 1, .int .u64 243, .int .u64 16, .int .u64 5, .int .u64 1, .slice B2 (PM z2).L.length d2, .slice E2 (PM z2).D.length e2] 0
  rw [← hW2] at hD2'
  clear hD2
  have hD2 := hD2'
  clear hD2'
  have hB2 := putAll_below hG2 [.bool (flagB z2.f0 1), .bool (flagB z2.f0 2), .int .u8 3, .int .u8 0, .string ⟨#[]⟩, .int .u64 1, .int .u64 243, .int .u64 16, .int .u64 5, .int .u64 1, .slice B2 (PM z2).L.length d2, .slice E2 (PM z2).D.length e2] 0 W1 hB
  rw [← hW2] at hB2
  clear hB
  have hB := hB2
  clear hB2
  have hW2' := hW2
  simp only [putAll, Nat.reduceAdd] at hW2'
  clear hW2
  refine last_ (i := 14) (N := none) #[true, true, true, true, true, true, true, true, true, true, true, true, true, true, true] rfl rfl (by kernel_rfl) (by decide) (fun K hK => ?_)
  refine skip_ (w1 := ?_) (by rfl) rfl ?_ ?_
  rotate_left
  ·go_simp
   rfl
  refine hK.out _ _ ?_
  clear hK K
  rw [← hW2']
  clear hW2' h0 f0 h1 f1 h2 f2 h3 f3 h4 f4 h5 f5 h6 f6 h7 f7 h8 f8 h9 f9 h10 f10 h11 f11
  refine done_ (by kernel_rfl) ?_
  have HM0 := Lib.hid hZ0
  have HL0 := Lib.hid (Kd.R_reads' hC0).2.2
  have HS0 := Lib.hid (Kd.R_reads' hD0).2.2
  have HM1 := Lib.hid hZ1
  have HL1 := Lib.hid (Kd.R_reads' hC1).2.2
  have HS1 := Lib.hid (Kd.R_reads' hD1).2.2
  have HM2 := Lib.hid hZ2
  have HL2 := Lib.hid (Kd.R_reads' hC2).2.2
  have HS2 := Lib.hid (Kd.R_reads' hD2).2.2
  have HBW := Lib.hid hB
  clear hB hP hZ0 hC0 hD0 hG0 hZ1 hC1 hD1 hG1 hZ2 hC2 hD2 hG2
  have HF01 := Lib.hid (fun W (hb : Below W2.heap.size W2 W) => diff_t z0 z1 B0 E0 B1 E1 d0 e0 d1 e1 W (Kd.C_below HL0.out hb) (Kd.C_below HS0.out hb) (Kd.C_below HL1.out hb) (Kd.C_below HS1.out hb))
  have HF10 := Lib.hid (fun W (hb : Below W2.heap.size W2 W) => diff_t z1 z0 B1 E1 B0 E0 d1 e1 d0 e0 W (Kd.C_below HL1.out hb) (Kd.C_below HS1.out hb) (Kd.C_below HL0.out hb) (Kd.C_below HS0.out hb))
  obtain ⟨n0, hn0⟩ : ∃ n0 : ByteArray, n0 = ⟨#[]⟩ := ⟨_, rfl⟩
  have HF00 := Lib.hid (fun W (hb : Below W2.heap.size W2 W) => diffS_t z0 n0 hn0 B0 E0 d0 e0 W (Kd.C_below HL0.out hb) (Kd.C_below HS0.out hb))
  obtain ⟨d, hd⟩ : ∃ d, d = diffR (PM z0) (PM z1) := ⟨_, rfl⟩
  rw [diffR_comm (PM z1) (PM z0), ← hd] at HF10
  rw [← hd] at HF01
  clear hd
  have n00 : (n0.toList == ([] : List UInt8)) = true := beq_iff_eq.2 (ba_niL.2 hn0)
  have n01 : n0.toList.isEmpty = true := List.isEmpty_iff.2 (ba_niL.2 hn0)
  have n02 : (n0.toList != ([] : List UInt8)) = false := bne_eq_false_iff_eq.2 (ba_niL.2 hn0)
  clear hn0
  have hdd : (d.toList != d.toList) = false := bne_eq_false_iff_eq.2 rfl
  go_upto_region 4 with (fail)
  have HN0 := Lib.hid (blk_drew HM0.out)
  have HN1 := Lib.hid (blk_drew HM1.out)
  have HN2 := Lib.hid (blk_drew HM2.out)
  have HMd := Lib.hid (show Below W2.heap.size W2 W2.drew from below_drew1 (Below.refl _ _))
  refine start_ (n := 13) (S := fun w' => w'.heap[g7]? = some (.cells #[.bool (flagB z0.f0 1), .bool (flagB z0.f0 2), .int .u8 3, .int .u8 0, .string ⟨#[]⟩, .int .u64 1, .int .u64 243, .int .u64 16, .int .u64 5, .int .u64 1, .slice B0 (PM z0).L.length d0, .slice E0 (PM z0).D.length e0] 39 (0, 0)) ∧ w'.heap[g8]? = some (.cells #[.bool (flagB z1.f0 1), .bool (flagB z1.f0 2), .int .u8 3, .int .u8 0, .string ⟨#[]⟩, .int .u64 1, .int .u64 243, .int .u64 16, .int .u64 5, .int .u64 1, .slice B1 (PM z1).L.length d1, .slice E1 (PM z1).D.length e1] 39 (0, 0)) ∧ w'.heap[g9]? = some (.cells #[.bool (flagB z2.f0 1), .bool (flagB z2.f0 2), .int .u8 3, .int .u8 0, .string ⟨#[]⟩, .int .u64 1, .int .u64 243, .int .u64 16, .int .u64 5, .int .u64 1, .slice B2 (PM z2).L.length d2, .slice E2 (PM z2).D.length e2] 39 (0, 0))) (ds := []) #[false, false, false, false, false, false, false, false, false, false, false, false, false] (by kernel_rfl) (by rfl) (by rfl) ⟨HN0.out, HN1.out, HN2.out⟩ (fun hHeld => ?_)
  generalize W2.drew = wd4 at HN0 HN1 HN2 HMd hHeld ⊢
  refine take_ (i := 0) (N := some 21) (v := ?_) (a' := ?_) #[true, false, false, false, false, false, false, false, false, false, false, false, false] rfl rfl (by kernel_rfl) (fun _ _ _ h => h) (Or.inl ⟨by rfl, ?_⟩) hHeld ?_ ?_
  rotate_left
  ·rintro w' ⟨s0, s1, s2⟩
   have x_0 := blk_cell s0 0
   have x_1 := blk_cell s0 1
   have x_2 := blk_cell s0 2
   have x_3 := blk_cell s0 3
   have x_4 := blk_cell s0 4
   have x_5 := blk_cell s0 5
   have x_6 := blk_cell s0 6
   have x_7 := blk_cell s0 7
   have x_8 := blk_cell s0 8
   have x_9 := blk_cell s0 9
   have x_10 := blk_cell s0 10
   have x_11 := blk_cell s0 11
   have y_0 := blk_cell s1 0
   have y_1 := blk_cell s1 1
   have y_2 := blk_cell s1 2
   have y_3 := blk_cell s1 3
   have y_4 := blk_cell s1 4
   have y_5 := blk_cell s1 5
   have y_6 := blk_cell s1 6
   have y_7 := blk_cell s1 7
   have y_8 := blk_cell s1 8
   have y_9 := blk_cell s1 9
   have y_10 := blk_cell s1 10
   have y_11 := blk_cell s1 11
   have z_0 := blk_cell s2 0
   have z_1 := blk_cell s2 1
   have z_2 := blk_cell s2 2
   have z_3 := blk_cell s2 3
   have z_4 := blk_cell s2 4
   have z_5 := blk_cell s2 5
   have z_6 := blk_cell s2 6
   have z_7 := blk_cell s2 7
   have z_8 := blk_cell s2 8
   have z_9 := blk_cell s2 9
   have z_10 := blk_cell s2 10
   have z_11 := blk_cell s2 11
   simp only [gA_, gB_, gC_] at x_0 x_1 x_2 x_3 x_4 x_5 x_6 x_7 x_8 x_9 x_10 x_11 y_0 y_1 y_2 y_3 y_4 y_5 y_6 y_7 y_8 y_9 y_10 y_11 z_0 z_1 z_2 z_3 z_4 z_5 z_6 z_7 z_8 z_9 z_10 z_11
   go_simp
   with_reducible rfl
  rotate_left
  ·simp only [Act.put, pA_, pB_, pC_]
   rfl
  refine take_ (i := 1) (N := some 22) (v := ?_) (a' := ?_) #[true, true, false, false, false, false, false, false, false, false, false, false, false] rfl rfl (by kernel_rfl) (fun _ _ _ h => h) (Or.inl ⟨by rfl, ?_⟩) hHeld ?_ ?_
  rotate_left
  ·rintro w' ⟨s0, s1, s2⟩
   have x_0 := blk_cell s0 0
   have x_1 := blk_cell s0 1
   have x_2 := blk_cell s0 2
   have x_3 := blk_cell s0 3
   have x_4 := blk_cell s0 4
   have x_5 := blk_cell s0 5
   have x_6 := blk_cell s0 6
   have x_7 := blk_cell s0 7
   have x_8 := blk_cell s0 8
   have x_9 := blk_cell s0 9
   have x_10 := blk_cell s0 10
   have x_11 := blk_cell s0 11
   have y_0 := blk_cell s1 0
   have y_1 := blk_cell s1 1
   have y_2 := blk_cell s1 2
   have y_3 := blk_cell s1 3
   have y_4 := blk_cell s1 4
   have y_5 := blk_cell s1 5
   have y_6 := blk_cell s1 6
   have y_7 := blk_cell s1 7
   have y_8 := blk_cell s1 8
   have y_9 := blk_cell s1 9
   have y_10 := blk_cell s1 10
   have y_11 := blk_cell s1 11
   have z_0 := blk_cell s2 0
   have z_1 := blk_cell s2 1
   have z_2 := blk_cell s2 2
   have z_3 := blk_cell s2 3
   have z_4 := blk_cell s2 4
   have z_5 := blk_cell s2 5
   have z_6 := blk_cell s2 6
   have z_7 := blk_cell s2 7
   have z_8 := blk_cell s2 8
   have z_9 := blk_cell s2 9
   have z_10 := blk_cell s2 10
   have z_11 := blk_cell s2 11
   simp only [gA_, gB_, gC_] at x_0 x_1 x_2 x_3 x_4 x_5 x_6 x_7 x_8 x_9 x_10 x_11 y_0 y_1 y_2 y_3 y_4 y_5 y_6 y_7 y_8 y_9 y_10 y_11 z_0 z_1 z_2 z_3 z_4 z_5 z_6 z_7 z_8 z_9 z_10 z_11
   go_simp
   with_reducible rfl
  rotate_left
  ·simp only [Act.put, pA_, pB_, pC_]
   rfl
  refine take_ (i := 3) (N := some 24) (v := ?_) (a' := ?_) #[true, true, false, true, false, false, false, false, false, false, false, false, false] rfl rfl (by kernel_rfl) (fun _ _ _ h => h) (Or.inl ⟨by rfl, ?_⟩) hHeld ?_ ?_
  rotate_left
  ·rintro w' ⟨s0, s1, s2⟩
   have x_0 := blk_cell s0 0
   have x_1 := blk_cell s0 1
   have x_2 := blk_cell s0 2
   have x_3 := blk_cell s0 3
   have x_4 := blk_cell s0 4
   have x_5 := blk_cell s0 5
   have x_6 := blk_cell s0 6
   have x_7 := blk_cell s0 7
   have x_8 := blk_cell s0 8
   have x_9 := blk_cell s0 9
   have x_10 := blk_cell s0 10
   have x_11 := blk_cell s0 11
   have y_0 := blk_cell s1 0
   have y_1 := blk_cell s1 1
   have y_2 := blk_cell s1 2
   have y_3 := blk_cell s1 3
   have y_4 := blk_cell s1 4
   have y_5 := blk_cell s1 5
   have y_6 := blk_cell s1 6
   have y_7 := blk_cell s1 7
   have y_8 := blk_cell s1 8
   have y_9 := blk_cell s1 9
   have y_10 := blk_cell s1 10
   have y_11 := blk_cell s1 11
   have z_0 := blk_cell s2 0
   have z_1 := blk_cell s2 1
   have z_2 := blk_cell s2 2
   have z_3 := blk_cell s2 3
   have z_4 := blk_cell s2 4
   have z_5 := blk_cell s2 5
   have z_6 := blk_cell s2 6
   have z_7 := blk_cell s2 7
   have z_8 := blk_cell s2 8
   have z_9 := blk_cell s2 9
   have z_10 := blk_cell s2 10
   have z_11 := blk_cell s2 11
   simp only [gA_, gB_, gC_] at x_0 x_1 x_2 x_3 x_4 x_5 x_6 x_7 x_8 x_9 x_10 x_11 y_0 y_1 y_2 y_3 y_4 y_5 y_6 y_7 y_8 y_9 y_10 y_11 z_0 z_1 z_2 z_3 z_4 z_5 z_6 z_7 z_8 z_9 z_10 z_11
   go_simp
   with_reducible rfl
  rotate_left
  ·simp only [Act.put, pA_, pB_, pC_]
   rfl
  refine take_ (i := 4) (N := some 25) (v := ?_) (a' := ?_) #[true, true, false, true, true, false, false, false, false, false, false, false, false] rfl rfl (by kernel_rfl) (fun _ _ _ h => h) (Or.inl ⟨by rfl, ?_⟩) hHeld ?_ ?_
  rotate_left
  ·rintro w' ⟨s0, s1, s2⟩
   have x_0 := blk_cell s0 0
   have x_1 := blk_cell s0 1
   have x_2 := blk_cell s0 2
   have x_3 := blk_cell s0 3
   have x_4 := blk_cell s0 4
   have x_5 := blk_cell s0 5
   have x_6 := blk_cell s0 6
   have x_7 := blk_cell s0 7
   have x_8 := blk_cell s0 8
   have x_9 := blk_cell s0 9
   have x_10 := blk_cell s0 10
   have x_11 := blk_cell s0 11
   have y_0 := blk_cell s1 0
   have y_1 := blk_cell s1 1
   have y_2 := blk_cell s1 2
   have y_3 := blk_cell s1 3
   have y_4 := blk_cell s1 4
   have y_5 := blk_cell s1 5
   have y_6 := blk_cell s1 6
   have y_7 := blk_cell s1 7
   have y_8 := blk_cell s1 8
   have y_9 := blk_cell s1 9
   have y_10 := blk_cell s1 10
   have y_11 := blk_cell s1 11
   have z_0 := blk_cell s2 0
   have z_1 := blk_cell s2 1
   have z_2 := blk_cell s2 2
   have z_3 := blk_cell s2 3
   have z_4 := blk_cell s2 4
   have z_5 := blk_cell s2 5
   have z_6 := blk_cell s2 6
   have z_7 := blk_cell s2 7
   have z_8 := blk_cell s2 8
   have z_9 := blk_cell s2 9
   have z_10 := blk_cell s2 10
   have z_11 := blk_cell s2 11
   simp only [gA_, gB_, gC_] at x_0 x_1 x_2 x_3 x_4 x_5 x_6 x_7 x_8 x_9 x_10 x_11 y_0 y_1 y_2 y_3 y_4 y_5 y_6 y_7 y_8 y_9 y_10 y_11 z_0 z_1 z_2 z_3 z_4 z_5 z_6 z_7 z_8 z_9 z_10 z_11
   go_simp
   with_reducible rfl
  rotate_left
  ·simp only [Act.put, pA_, pB_, pC_]
   rfl
  refine one_ (i := 2) (N := some 23) #[true, true, true, true, true, false, false, false, false, false, false, false, false] rfl rfl (by kernel_rfl) (by decide) (fun K hK => ?_)
  refine goes_ Tryd.func12 (by kernel_rfl) rfl #[.agg #[.bool (flagB z0.f0 1), .bool (flagB z0.f0 2), .int .u8 3, .int .u8 0, .string ⟨#[]⟩, .int .u64 1, .int .u64 243, .int .u64 16, .int .u64 5, .int .u64 1, .slice B0 (PM z0).L.length d0, .slice E0 (PM z0).D.length e0], .agg #[.bool (flagB z1.f0 1), .bool (flagB z1.f0 2), .int .u8 3, .int .u8 0, .string ⟨#[]⟩, .int .u64 1, .int .u64 243, .int .u64 16, .int .u64 5, .int .u64 1, .slice B1 (PM z1).L.length d1, .slice E1 (PM z1).D.length e1]] (by rfl) rfl rfl (by first | rfl | (simp only [List.map_toArray, List.map_cons, List.map_nil]; rfl)) ?_
  refine (HF01.out wd4 HMd.out).mono ?_
  rintro e v1 ⟨rfl, hb⟩
  refine ⟨_, rfl, ?_⟩
  have HBv1 := Lib.hid (hb)
  clear hb
  refine hK.out _ _ ⟨blk_below HN0.out HBv1.out, blk_below HN1.out HBv1.out, blk_below HN2.out HBv1.out⟩ (fun hHeld => ?_)
  clear hK K
  refine norm_ (a' := ?_) ?_ ?_
  rotate_left
  ·show Act.put _ (some 23) _ = _
   simp only [Act.put, pA_, pB_, pC_]
   rfl
  refine one_ (i := 5) (N := some 26) #[true, true, true, true, true, true, false, false, false, false, false, false, false] rfl rfl (by kernel_rfl) (by decide) (fun K hK => ?_)
  refine goes_ Tryd.func12 (by kernel_rfl) rfl #[.agg #[.bool (flagB z1.f0 1), .bool (flagB z1.f0 2), .int .u8 3, .int .u8 0, .string ⟨#[]⟩, .int .u64 1, .int .u64 243, .int .u64 16, .int .u64 5, .int .u64 1, .slice B1 (PM z1).L.length d1, .slice E1 (PM z1).D.length e1], .agg #[.bool (flagB z0.f0 1), .bool (flagB z0.f0 2), .int .u8 3, .int .u8 0, .string ⟨#[]⟩, .int .u64 1, .int .u64 243, .int .u64 16, .int .u64 5, .int .u64 1, .slice B0 (PM z0).L.length d0, .slice E0 (PM z0).D.length e0]] (by rfl) rfl rfl (by first | rfl | (simp only [List.map_toArray, List.map_cons, List.map_nil]; rfl)) ?_
  refine (HF10.out v1 (HMd.out.trans (HBv1.out.mono HMd.out.size))).mono ?_
  rintro e v2 ⟨rfl, hb⟩
  refine ⟨_, rfl, ?_⟩
  have HBv2 := Lib.hid (HBv1.out.trans (hb.mono HBv1.out.size))
  clear hb
  refine hK.out _ _ ⟨blk_below HN0.out HBv2.out, blk_below HN1.out HBv2.out, blk_below HN2.out HBv2.out⟩ (fun hHeld => ?_)
  clear hK K
  refine norm_ (a' := ?_) ?_ ?_
  rotate_left
  ·show Act.put _ (some 26) _ = _
   simp only [Act.put, pA_, pB_, pC_]
   rfl
  refine pure_ (i := 6) (N := some 27) (v := ?_) (a' := ?_) #[true, true, true, true, true, true, true, false, false, false, false, false, false] rfl rfl (by kernel_rfl) (fun _ _ _ h => h) (Or.inl ⟨by rfl, ?_⟩) ?_ ?_
  rotate_left
  ·intro w'
   go_simp
   with_reducible rfl
  rotate_left
  ·simp only [Act.put, pA_, pB_, pC_]
   rfl
  refine pure_ (i := 7) (N := some 28) (v := ?_) (a' := ?_) #[true, true, true, true, true, true, true, true, false, false, false, false, false] rfl rfl (by kernel_rfl) (fun _ _ _ h => h) (Or.inl ⟨by rfl, ?_⟩) ?_ ?_
  rotate_left
  ·intro w'
   go_simp
   with_reducible rfl
  rotate_left
  ·simp only [Act.put, pA_, pB_, pC_]
   rfl
  refine take_ (i := 8) (N := some 29) (v := ?_) (a' := ?_) #[true, true, true, true, true, true, true, true, true, false, false, false, false] rfl rfl (by kernel_rfl) (fun _ _ _ h => h) (Or.inl ⟨by rfl, ?_⟩) hHeld ?_ ?_
  rotate_left
  ·rintro w' ⟨s0, s1, s2⟩
   have x_0 := blk_cell s0 0
   have x_1 := blk_cell s0 1
   have x_2 := blk_cell s0 2
   have x_3 := blk_cell s0 3
   have x_4 := blk_cell s0 4
   have x_5 := blk_cell s0 5
   have x_6 := blk_cell s0 6
   have x_7 := blk_cell s0 7
   have x_8 := blk_cell s0 8
   have x_9 := blk_cell s0 9
   have x_10 := blk_cell s0 10
   have x_11 := blk_cell s0 11
   have y_0 := blk_cell s1 0
   have y_1 := blk_cell s1 1
   have y_2 := blk_cell s1 2
   have y_3 := blk_cell s1 3
   have y_4 := blk_cell s1 4
   have y_5 := blk_cell s1 5
   have y_6 := blk_cell s1 6
   have y_7 := blk_cell s1 7
   have y_8 := blk_cell s1 8
   have y_9 := blk_cell s1 9
   have y_10 := blk_cell s1 10
   have y_11 := blk_cell s1 11
   have z_0 := blk_cell s2 0
   have z_1 := blk_cell s2 1
   have z_2 := blk_cell s2 2
   have z_3 := blk_cell s2 3
   have z_4 := blk_cell s2 4
   have z_5 := blk_cell s2 5
   have z_6 := blk_cell s2 6
   have z_7 := blk_cell s2 7
   have z_8 := blk_cell s2 8
   have z_9 := blk_cell s2 9
   have z_10 := blk_cell s2 10
   have z_11 := blk_cell s2 11
   simp only [gA_, gB_, gC_] at x_0 x_1 x_2 x_3 x_4 x_5 x_6 x_7 x_8 x_9 x_10 x_11 y_0 y_1 y_2 y_3 y_4 y_5 y_6 y_7 y_8 y_9 y_10 y_11 z_0 z_1 z_2 z_3 z_4 z_5 z_6 z_7 z_8 z_9 z_10 z_11
   go_simp
   with_reducible rfl
  rotate_left
  ·simp only [Act.put, pA_, pB_, pC_]
   rfl
  refine take_ (i := 9) (N := some 30) (v := ?_) (a' := ?_) #[true, true, true, true, true, true, true, true, true, true, false, false, false] rfl rfl (by kernel_rfl) (fun _ _ _ h => h) (Or.inl ⟨by rfl, ?_⟩) hHeld ?_ ?_
  rotate_left
  ·rintro w' ⟨s0, s1, s2⟩
   have x_0 := blk_cell s0 0
   have x_1 := blk_cell s0 1
   have x_2 := blk_cell s0 2
   have x_3 := blk_cell s0 3
   have x_4 := blk_cell s0 4
   have x_5 := blk_cell s0 5
   have x_6 := blk_cell s0 6
   have x_7 := blk_cell s0 7
   have x_8 := blk_cell s0 8
   have x_9 := blk_cell s0 9
   have x_10 := blk_cell s0 10
   have x_11 := blk_cell s0 11
   have y_0 := blk_cell s1 0
   have y_1 := blk_cell s1 1
   have y_2 := blk_cell s1 2
   have y_3 := blk_cell s1 3
   have y_4 := blk_cell s1 4
   have y_5 := blk_cell s1 5
   have y_6 := blk_cell s1 6
   have y_7 := blk_cell s1 7
   have y_8 := blk_cell s1 8
   have y_9 := blk_cell s1 9
   have y_10 := blk_cell s1 10
   have y_11 := blk_cell s1 11
   have z_0 := blk_cell s2 0
   have z_1 := blk_cell s2 1
   have z_2 := blk_cell s2 2
   have z_3 := blk_cell s2 3
   have z_4 := blk_cell s2 4
   have z_5 := blk_cell s2 5
   have z_6 := blk_cell s2 6
   have z_7 := blk_cell s2 7
   have z_8 := blk_cell s2 8
   have z_9 := blk_cell s2 9
   have z_10 := blk_cell s2 10
   have z_11 := blk_cell s2 11
   simp only [gA_, gB_, gC_] at x_0 x_1 x_2 x_3 x_4 x_5 x_6 x_7 x_8 x_9 x_10 x_11 y_0 y_1 y_2 y_3 y_4 y_5 y_6 y_7 y_8 y_9 y_10 y_11 z_0 z_1 z_2 z_3 z_4 z_5 z_6 z_7 z_8 z_9 z_10 z_11
   go_simp
   with_reducible rfl
  rotate_left
  ·simp only [Act.put, pA_, pB_, pC_]
   rfl
  refine one_ (i := 10) (N := some 31) #[true, true, true, true, true, true, true, true, true, true, true, false, false] rfl rfl (by kernel_rfl) (by decide) (fun K hK => ?_)
  refine goes_ Tryd.func12 (by kernel_rfl) rfl #[.agg #[.bool (flagB z0.f0 1), .bool (flagB z0.f0 2), .int .u8 3, .int .u8 0, .string ⟨#[]⟩, .int .u64 1, .int .u64 243, .int .u64 16, .int .u64 5, .int .u64 1, .slice B0 (PM z0).L.length d0, .slice E0 (PM z0).D.length e0], .agg #[.bool (flagB z0.f0 1), .bool (flagB z0.f0 2), .int .u8 3, .int .u8 0, .string ⟨#[]⟩, .int .u64 1, .int .u64 243, .int .u64 16, .int .u64 5, .int .u64 1, .slice B0 (PM z0).L.length d0, .slice E0 (PM z0).D.length e0]] (by rfl) rfl rfl (by first | rfl | (simp only [List.map_toArray, List.map_cons, List.map_nil]; rfl)) ?_
  refine (HF00.out v2 (HMd.out.trans (HBv2.out.mono HMd.out.size))).mono ?_
  rintro e v3 ⟨rfl, hb⟩
  refine ⟨_, rfl, ?_⟩
  have HBv3 := Lib.hid (HBv2.out.trans (hb.mono HBv2.out.size))
  clear hb
  refine hK.out _ _ ⟨blk_below HN0.out HBv3.out, blk_below HN1.out HBv3.out, blk_below HN2.out HBv3.out⟩ (fun hHeld => ?_)
  clear hK K
  refine norm_ (a' := ?_) ?_ ?_
  rotate_left
  ·show Act.put _ (some 31) _ = _
   simp only [Act.put, pA_, pB_, pC_]
   rfl
  refine pure_ (i := 11) (N := some 32) (v := ?_) (a' := ?_) #[true, true, true, true, true, true, true, true, true, true, true, true, false] rfl rfl (by kernel_rfl) (fun _ _ _ h => h) (Or.inl ⟨by rfl, ?_⟩) ?_ ?_
  rotate_left
  ·intro w'
   go_simp
   with_reducible rfl
  rotate_left
  ·simp only [Act.put, pA_, pB_, pC_]
   rfl
  refine pure_ (i := 12) (N := some 33) (v := ?_) (a' := ?_) #[true, true, true, true, true, true, true, true, true, true, true, true, true] rfl rfl (by kernel_rfl) (fun _ _ _ h => h) (Or.inl ⟨by rfl, ?_⟩) ?_ ?_
  rotate_left
  ·intro w'
   go_simp
   with_reducible rfl
  rotate_left
  ·simp only [Act.put, pA_, pB_, pC_]
   rfl
  refine done_ (by kernel_rfl) ?_
  have HQ := Lib.hid (HMd.out.trans (HBv3.out.mono HMd.out.size))
  have HM0' := Lib.hid (blk_below HN0.out HBv3.out)
  clear HM0
  have HM0 := HM0'
  clear HM0'
  have HM1' := Lib.hid (blk_below HN1.out HBv3.out)
  clear HM1
  have HM1 := HM1'
  clear HM1'
  have HM2' := Lib.hid (blk_below HN2.out HBv3.out)
  clear HM2
  have HM2 := HM2'
  clear HM2'
  have HBW2 := Lib.hid (HBW.out.trans (HQ.out.mono HBW.out.size))
  have HL0' := Lib.hid (Kd.C_below HL0.out HQ.out)
  clear HL0
  have HL0 := HL0'
  clear HL0'
  have HS0' := Lib.hid (Kd.C_below HS0.out HQ.out)
  clear HS0
  have HS0 := HS0'
  clear HS0'
  have HL1' := Lib.hid (Kd.C_below HL1.out HQ.out)
  clear HL1
  have HL1 := HL1'
  clear HL1'
  have HS1' := Lib.hid (Kd.C_below HS1.out HQ.out)
  clear HS1
  have HS1 := HS1'
  clear HS1'
  have HL2' := Lib.hid (Kd.C_below HL2.out HQ.out)
  clear HL2
  have HL2 := HL2'
  clear HL2'
  have HS2' := Lib.hid (Kd.C_below HS2.out HQ.out)
  clear HS2
  have HS2 := HS2'
  clear HS2'
  clear HQ HBW HBv1 HBv2 HBv3 HN0 HN1 HN2 HMd HF01 HF10 HF00 n00 n01 n02 hdd hHeld
  go_upto_region 6 with (fail)
  have HG01 := Lib.hid (fun W (hb : Below v3.heap.size v3 W) => models_t z0 z1 B0 E0 B1 E1 d0 e0 d1 e1 W (Kd.C_below HL0.out hb) (Kd.C_below HS0.out hb) (Kd.C_below HL1.out hb) (Kd.C_below HS1.out hb))
  have HG12 := Lib.hid (fun W (hb : Below v3.heap.size v3 W) => models_t z1 z2 B1 E1 B2 E2 d1 e1 d2 e2 W (Kd.C_below HL1.out hb) (Kd.C_below HS1.out hb) (Kd.C_below HL2.out hb) (Kd.C_below HS2.out hb))
  have HG02 := Lib.hid (fun W (hb : Below v3.heap.size v3 W) => models_t z0 z2 B0 E0 B2 E2 d0 e0 d2 e2 W (Kd.C_below HL0.out hb) (Kd.C_below HS0.out hb) (Kd.C_below HL2.out hb) (Kd.C_below HS2.out hb))
  by_cases hab : eqM (PM z0) (PM z1)
  ·rw [eqC_true (diffR_nil.2 hab)] at HG01
   by_cases hbc : eqM (PM z1) (PM z2)
   ·rw [eqC_true (diffR_nil.2 hbc)] at HG12
    rw [eqC_true (diffR_nil.2 (eqM_trans hab hbc))] at HG02
    clear hab hbc
    have o0_0 := blk_cell HM0.out 0
    have o0_1 := blk_cell HM0.out 1
    have o0_2 := blk_cell HM0.out 2
    have o0_3 := blk_cell HM0.out 3
    have o0_4 := blk_cell HM0.out 4
    have o0_5 := blk_cell HM0.out 5
    have o0_6 := blk_cell HM0.out 6
    have o0_7 := blk_cell HM0.out 7
    have o0_8 := blk_cell HM0.out 8
    have o0_9 := blk_cell HM0.out 9
    have o0_10 := blk_cell HM0.out 10
    have o0_11 := blk_cell HM0.out 11
    have o1_0 := blk_cell HM1.out 0
    have o1_1 := blk_cell HM1.out 1
    have o1_2 := blk_cell HM1.out 2
    have o1_3 := blk_cell HM1.out 3
    have o1_4 := blk_cell HM1.out 4
    have o1_5 := blk_cell HM1.out 5
    have o1_6 := blk_cell HM1.out 6
    have o1_7 := blk_cell HM1.out 7
    have o1_8 := blk_cell HM1.out 8
    have o1_9 := blk_cell HM1.out 9
    have o1_10 := blk_cell HM1.out 10
    have o1_11 := blk_cell HM1.out 11
    have o2_0 := blk_cell HM2.out 0
    have o2_1 := blk_cell HM2.out 1
    have o2_2 := blk_cell HM2.out 2
    have o2_3 := blk_cell HM2.out 3
    have o2_4 := blk_cell HM2.out 4
    have o2_5 := blk_cell HM2.out 5
    have o2_6 := blk_cell HM2.out 6
    have o2_7 := blk_cell HM2.out 7
    have o2_8 := blk_cell HM2.out 8
    have o2_9 := blk_cell HM2.out 9
    have o2_10 := blk_cell HM2.out 10
    have o2_11 := blk_cell HM2.out 11
    simp only [gA_, gB_, gC_] at o0_0 o0_1 o0_2 o0_3 o0_4 o0_5 o0_6 o0_7 o0_8 o0_9 o0_10 o0_11 o1_0 o1_1 o1_2 o1_3 o1_4 o1_5 o1_6 o1_7 o1_8 o1_9 o1_10 o1_11 o2_0 o2_1 o2_2 o2_3 o2_4 o2_5 o2_6 o2_7 o2_8 o2_9 o2_10 o2_11
    go_wp2_with (first | (go_at_call 10; with_reducible refine (HG01.out _ (Below.refl _ _)).mono ?_; rintro e k1 ⟨rfl, hb⟩; have X0 := blk_below HM0.out hb; have p0_0 := blk_cell X0 0; have p0_1 := blk_cell X0 1; have p0_2 := blk_cell X0 2; have p0_3 := blk_cell X0 3; have p0_4 := blk_cell X0 4; have p0_5 := blk_cell X0 5; have p0_6 := blk_cell X0 6; have p0_7 := blk_cell X0 7; have p0_8 := blk_cell X0 8; have p0_9 := blk_cell X0 9; have p0_10 := blk_cell X0 10; have p0_11 := blk_cell X0 11; have X1 := blk_below HM1.out hb; have p1_0 := blk_cell X1 0; have p1_1 := blk_cell X1 1; have p1_2 := blk_cell X1 2; have p1_3 := blk_cell X1 3; have p1_4 := blk_cell X1 4; have p1_5 := blk_cell X1 5; have p1_6 := blk_cell X1 6; have p1_7 := blk_cell X1 7; have p1_8 := blk_cell X1 8; have p1_9 := blk_cell X1 9; have p1_10 := blk_cell X1 10; have p1_11 := blk_cell X1 11; have X2 := blk_below HM2.out hb; have p2_0 := blk_cell X2 0; have p2_1 := blk_cell X2 1; have p2_2 := blk_cell X2 2; have p2_3 := blk_cell X2 3; have p2_4 := blk_cell X2 4; have p2_5 := blk_cell X2 5; have p2_6 := blk_cell X2 6; have p2_7 := blk_cell X2 7; have p2_8 := blk_cell X2 8; have p2_9 := blk_cell X2 9; have p2_10 := blk_cell X2 10; have p2_11 := blk_cell X2 11; simp only [gA_, gB_, gC_] at p0_0 p0_1 p0_2 p0_3 p0_4 p0_5 p0_6 p0_7 p0_8 p0_9 p0_10 p0_11 p1_0 p1_1 p1_2 p1_3 p1_4 p1_5 p1_6 p1_7 p1_8 p1_9 p1_10 p1_11 p2_0 p2_1 p2_2 p2_3 p2_4 p2_5 p2_6 p2_7 p2_8 p2_9 p2_10 p2_11; clear X0 X1 X2; have HK1 := Lib.hid hb; clear hb) | (go_at_call 10; with_reducible refine (HG12.out _ HK1.out).mono ?_; rintro e k2 ⟨rfl, hb⟩; have HK2 := Lib.hid (HK1.out.trans (hb.mono HK1.out.size)); clear hb; have X0 := blk_below HM0.out HK2.out; have q0_0 := blk_cell X0 0; have q0_1 := blk_cell X0 1; have q0_2 := blk_cell X0 2; have q0_3 := blk_cell X0 3; have q0_4 := blk_cell X0 4; have q0_5 := blk_cell X0 5; have q0_6 := blk_cell X0 6; have q0_7 := blk_cell X0 7; have q0_8 := blk_cell X0 8; have q0_9 := blk_cell X0 9; have q0_10 := blk_cell X0 10; have q0_11 := blk_cell X0 11; have X1 := blk_below HM1.out HK2.out; have q1_0 := blk_cell X1 0; have q1_1 := blk_cell X1 1; have q1_2 := blk_cell X1 2; have q1_3 := blk_cell X1 3; have q1_4 := blk_cell X1 4; have q1_5 := blk_cell X1 5; have q1_6 := blk_cell X1 6; have q1_7 := blk_cell X1 7; have q1_8 := blk_cell X1 8; have q1_9 := blk_cell X1 9; have q1_10 := blk_cell X1 10; have q1_11 := blk_cell X1 11; have X2 := blk_below HM2.out HK2.out; have q2_0 := blk_cell X2 0; have q2_1 := blk_cell X2 1; have q2_2 := blk_cell X2 2; have q2_3 := blk_cell X2 3; have q2_4 := blk_cell X2 4; have q2_5 := blk_cell X2 5; have q2_6 := blk_cell X2 6; have q2_7 := blk_cell X2 7; have q2_8 := blk_cell X2 8; have q2_9 := blk_cell X2 9; have q2_10 := blk_cell X2 10; have q2_11 := blk_cell X2 11; simp only [gA_, gB_, gC_] at q0_0 q0_1 q0_2 q0_3 q0_4 q0_5 q0_6 q0_7 q0_8 q0_9 q0_10 q0_11 q1_0 q1_1 q1_2 q1_3 q1_4 q1_5 q1_6 q1_7 q1_8 q1_9 q1_10 q1_11 q2_0 q2_1 q2_2 q2_3 q2_4 q2_5 q2_6 q2_7 q2_8 q2_9 q2_10 q2_11; clear X0 X1 X2) | (go_at_call 10; with_reducible refine (HG02.out _ HK2.out).mono ?_; rintro e k3 ⟨rfl, hb⟩; have HK3 := Lib.hid (HK2.out.trans (hb.mono HK2.out.size)); clear hb))
    go_ret
    exact ⟨rfl, HBW2.out.trans (HK3.out.mono HBW2.out.size)⟩
   ·rw [eqC_false (fun h => hbc (diffR_nil.1 h))] at HG12
    clear hab hbc
    have o0_0 := blk_cell HM0.out 0
    have o0_1 := blk_cell HM0.out 1
    have o0_2 := blk_cell HM0.out 2
    have o0_3 := blk_cell HM0.out 3
    have o0_4 := blk_cell HM0.out 4
    have o0_5 := blk_cell HM0.out 5
    have o0_6 := blk_cell HM0.out 6
    have o0_7 := blk_cell HM0.out 7
    have o0_8 := blk_cell HM0.out 8
    have o0_9 := blk_cell HM0.out 9
    have o0_10 := blk_cell HM0.out 10
    have o0_11 := blk_cell HM0.out 11
    have o1_0 := blk_cell HM1.out 0
    have o1_1 := blk_cell HM1.out 1
    have o1_2 := blk_cell HM1.out 2
    have o1_3 := blk_cell HM1.out 3
    have o1_4 := blk_cell HM1.out 4
    have o1_5 := blk_cell HM1.out 5
    have o1_6 := blk_cell HM1.out 6
    have o1_7 := blk_cell HM1.out 7
    have o1_8 := blk_cell HM1.out 8
    have o1_9 := blk_cell HM1.out 9
    have o1_10 := blk_cell HM1.out 10
    have o1_11 := blk_cell HM1.out 11
    have o2_0 := blk_cell HM2.out 0
    have o2_1 := blk_cell HM2.out 1
    have o2_2 := blk_cell HM2.out 2
    have o2_3 := blk_cell HM2.out 3
    have o2_4 := blk_cell HM2.out 4
    have o2_5 := blk_cell HM2.out 5
    have o2_6 := blk_cell HM2.out 6
    have o2_7 := blk_cell HM2.out 7
    have o2_8 := blk_cell HM2.out 8
    have o2_9 := blk_cell HM2.out 9
    have o2_10 := blk_cell HM2.out 10
    have o2_11 := blk_cell HM2.out 11
    simp only [gA_, gB_, gC_] at o0_0 o0_1 o0_2 o0_3 o0_4 o0_5 o0_6 o0_7 o0_8 o0_9 o0_10 o0_11 o1_0 o1_1 o1_2 o1_3 o1_4 o1_5 o1_6 o1_7 o1_8 o1_9 o1_10 o1_11 o2_0 o2_1 o2_2 o2_3 o2_4 o2_5 o2_6 o2_7 o2_8 o2_9 o2_10 o2_11
    go_wp2_with (first | (go_at_call 10; with_reducible refine (HG01.out _ (Below.refl _ _)).mono ?_; rintro e k1 ⟨rfl, hb⟩; have X0 := blk_below HM0.out hb; have p0_0 := blk_cell X0 0; have p0_1 := blk_cell X0 1; have p0_2 := blk_cell X0 2; have p0_3 := blk_cell X0 3; have p0_4 := blk_cell X0 4; have p0_5 := blk_cell X0 5; have p0_6 := blk_cell X0 6; have p0_7 := blk_cell X0 7; have p0_8 := blk_cell X0 8; have p0_9 := blk_cell X0 9; have p0_10 := blk_cell X0 10; have p0_11 := blk_cell X0 11; have X1 := blk_below HM1.out hb; have p1_0 := blk_cell X1 0; have p1_1 := blk_cell X1 1; have p1_2 := blk_cell X1 2; have p1_3 := blk_cell X1 3; have p1_4 := blk_cell X1 4; have p1_5 := blk_cell X1 5; have p1_6 := blk_cell X1 6; have p1_7 := blk_cell X1 7; have p1_8 := blk_cell X1 8; have p1_9 := blk_cell X1 9; have p1_10 := blk_cell X1 10; have p1_11 := blk_cell X1 11; have X2 := blk_below HM2.out hb; have p2_0 := blk_cell X2 0; have p2_1 := blk_cell X2 1; have p2_2 := blk_cell X2 2; have p2_3 := blk_cell X2 3; have p2_4 := blk_cell X2 4; have p2_5 := blk_cell X2 5; have p2_6 := blk_cell X2 6; have p2_7 := blk_cell X2 7; have p2_8 := blk_cell X2 8; have p2_9 := blk_cell X2 9; have p2_10 := blk_cell X2 10; have p2_11 := blk_cell X2 11; simp only [gA_, gB_, gC_] at p0_0 p0_1 p0_2 p0_3 p0_4 p0_5 p0_6 p0_7 p0_8 p0_9 p0_10 p0_11 p1_0 p1_1 p1_2 p1_3 p1_4 p1_5 p1_6 p1_7 p1_8 p1_9 p1_10 p1_11 p2_0 p2_1 p2_2 p2_3 p2_4 p2_5 p2_6 p2_7 p2_8 p2_9 p2_10 p2_11; clear X0 X1 X2; have HK1 := Lib.hid hb; clear hb) | (go_at_call 10; with_reducible refine (HG12.out _ HK1.out).mono ?_; rintro e k2 ⟨rfl, hb⟩; have HK2 := Lib.hid (HK1.out.trans (hb.mono HK1.out.size)); clear hb; have X0 := blk_below HM0.out HK2.out; have q0_0 := blk_cell X0 0; have q0_1 := blk_cell X0 1; have q0_2 := blk_cell X0 2; have q0_3 := blk_cell X0 3; have q0_4 := blk_cell X0 4; have q0_5 := blk_cell X0 5; have q0_6 := blk_cell X0 6; have q0_7 := blk_cell X0 7; have q0_8 := blk_cell X0 8; have q0_9 := blk_cell X0 9; have q0_10 := blk_cell X0 10; have q0_11 := blk_cell X0 11; have X1 := blk_below HM1.out HK2.out; have q1_0 := blk_cell X1 0; have q1_1 := blk_cell X1 1; have q1_2 := blk_cell X1 2; have q1_3 := blk_cell X1 3; have q1_4 := blk_cell X1 4; have q1_5 := blk_cell X1 5; have q1_6 := blk_cell X1 6; have q1_7 := blk_cell X1 7; have q1_8 := blk_cell X1 8; have q1_9 := blk_cell X1 9; have q1_10 := blk_cell X1 10; have q1_11 := blk_cell X1 11; have X2 := blk_below HM2.out HK2.out; have q2_0 := blk_cell X2 0; have q2_1 := blk_cell X2 1; have q2_2 := blk_cell X2 2; have q2_3 := blk_cell X2 3; have q2_4 := blk_cell X2 4; have q2_5 := blk_cell X2 5; have q2_6 := blk_cell X2 6; have q2_7 := blk_cell X2 7; have q2_8 := blk_cell X2 8; have q2_9 := blk_cell X2 9; have q2_10 := blk_cell X2 10; have q2_11 := blk_cell X2 11; simp only [gA_, gB_, gC_] at q0_0 q0_1 q0_2 q0_3 q0_4 q0_5 q0_6 q0_7 q0_8 q0_9 q0_10 q0_11 q1_0 q1_1 q1_2 q1_3 q1_4 q1_5 q1_6 q1_7 q1_8 q1_9 q1_10 q1_11 q2_0 q2_1 q2_2 q2_3 q2_4 q2_5 q2_6 q2_7 q2_8 q2_9 q2_10 q2_11; clear X0 X1 X2))
    go_ret
    exact ⟨rfl, HBW2.out.trans (HK2.out.mono HBW2.out.size)⟩
  ·rw [eqC_false (fun h => hab (diffR_nil.1 h))] at HG01
   clear hab
   have o0_0 := blk_cell HM0.out 0
   have o0_1 := blk_cell HM0.out 1
   have o0_2 := blk_cell HM0.out 2
   have o0_3 := blk_cell HM0.out 3
   have o0_4 := blk_cell HM0.out 4
   have o0_5 := blk_cell HM0.out 5
   have o0_6 := blk_cell HM0.out 6
   have o0_7 := blk_cell HM0.out 7
   have o0_8 := blk_cell HM0.out 8
   have o0_9 := blk_cell HM0.out 9
   have o0_10 := blk_cell HM0.out 10
   have o0_11 := blk_cell HM0.out 11
   have o1_0 := blk_cell HM1.out 0
   have o1_1 := blk_cell HM1.out 1
   have o1_2 := blk_cell HM1.out 2
   have o1_3 := blk_cell HM1.out 3
   have o1_4 := blk_cell HM1.out 4
   have o1_5 := blk_cell HM1.out 5
   have o1_6 := blk_cell HM1.out 6
   have o1_7 := blk_cell HM1.out 7
   have o1_8 := blk_cell HM1.out 8
   have o1_9 := blk_cell HM1.out 9
   have o1_10 := blk_cell HM1.out 10
   have o1_11 := blk_cell HM1.out 11
   have o2_0 := blk_cell HM2.out 0
   have o2_1 := blk_cell HM2.out 1
   have o2_2 := blk_cell HM2.out 2
   have o2_3 := blk_cell HM2.out 3
   have o2_4 := blk_cell HM2.out 4
   have o2_5 := blk_cell HM2.out 5
   have o2_6 := blk_cell HM2.out 6
   have o2_7 := blk_cell HM2.out 7
   have o2_8 := blk_cell HM2.out 8
   have o2_9 := blk_cell HM2.out 9
   have o2_10 := blk_cell HM2.out 10
   have o2_11 := blk_cell HM2.out 11
   simp only [gA_, gB_, gC_] at o0_0 o0_1 o0_2 o0_3 o0_4 o0_5 o0_6 o0_7 o0_8 o0_9 o0_10 o0_11 o1_0 o1_1 o1_2 o1_3 o1_4 o1_5 o1_6 o1_7 o1_8 o1_9 o1_10 o1_11 o2_0 o2_1 o2_2 o2_3 o2_4 o2_5 o2_6 o2_7 o2_8 o2_9 o2_10 o2_11
   go_wp2_with (first | (go_at_call 10; with_reducible refine (HG01.out _ (Below.refl _ _)).mono ?_; rintro e k1 ⟨rfl, hb⟩; have X0 := blk_below HM0.out hb; have p0_0 := blk_cell X0 0; have p0_1 := blk_cell X0 1; have p0_2 := blk_cell X0 2; have p0_3 := blk_cell X0 3; have p0_4 := blk_cell X0 4; have p0_5 := blk_cell X0 5; have p0_6 := blk_cell X0 6; have p0_7 := blk_cell X0 7; have p0_8 := blk_cell X0 8; have p0_9 := blk_cell X0 9; have p0_10 := blk_cell X0 10; have p0_11 := blk_cell X0 11; have X1 := blk_below HM1.out hb; have p1_0 := blk_cell X1 0; have p1_1 := blk_cell X1 1; have p1_2 := blk_cell X1 2; have p1_3 := blk_cell X1 3; have p1_4 := blk_cell X1 4; have p1_5 := blk_cell X1 5; have p1_6 := blk_cell X1 6; have p1_7 := blk_cell X1 7; have p1_8 := blk_cell X1 8; have p1_9 := blk_cell X1 9; have p1_10 := blk_cell X1 10; have p1_11 := blk_cell X1 11; have X2 := blk_below HM2.out hb; have p2_0 := blk_cell X2 0; have p2_1 := blk_cell X2 1; have p2_2 := blk_cell X2 2; have p2_3 := blk_cell X2 3; have p2_4 := blk_cell X2 4; have p2_5 := blk_cell X2 5; have p2_6 := blk_cell X2 6; have p2_7 := blk_cell X2 7; have p2_8 := blk_cell X2 8; have p2_9 := blk_cell X2 9; have p2_10 := blk_cell X2 10; have p2_11 := blk_cell X2 11; simp only [gA_, gB_, gC_] at p0_0 p0_1 p0_2 p0_3 p0_4 p0_5 p0_6 p0_7 p0_8 p0_9 p0_10 p0_11 p1_0 p1_1 p1_2 p1_3 p1_4 p1_5 p1_6 p1_7 p1_8 p1_9 p1_10 p1_11 p2_0 p2_1 p2_2 p2_3 p2_4 p2_5 p2_6 p2_7 p2_8 p2_9 p2_10 p2_11; clear X0 X1 X2; have HK1 := Lib.hid hb; clear hb))
   go_ret
   exact ⟨rfl, HBW2.out.trans (HK1.out.mono HBW2.out.size)⟩
end Go.Proofs.YthphhogljniofaaDoor

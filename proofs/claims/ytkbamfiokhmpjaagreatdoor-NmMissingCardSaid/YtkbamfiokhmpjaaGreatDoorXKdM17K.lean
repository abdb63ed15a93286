/- Contracts over this translation, plans' models: told. -/
import Derived.Test.YtkbamfiokhmpjaaGreatDoorXKdM17D
namespace Go.Proofs.YtkbamfiokhmpjaaGreatDoor
set_option linter.unusedVariables false
set_option linter.unusedSimpArgs false
open Go.RowKit Go.Proofs.YtkbamfiokhmpjaaGreatDoorX.Kd Go.Proofs.YtkbamfiokhmpjaaGreatDoorW.PrintWords Go.Proofs.YtkbamfiokhmpjaaGreatDoorW.PrintLast Go.Proofs.YtkbamfiokhmpjaaGreatDoorW.PrintMore
attribute [local go_sem] max2_int min2_int max_two min_two

/-- The document's model as the program's. -/
def symT (x : S56) : S81 := ⟨x.f0, x.f1, x.f2, x.f3, x.f4, x.f5, x.f6⟩
def relT (x : S74) : S82 := ⟨x.f0, x.f1, x.f2, x.f3⟩
def secT (x : S54) : S80 := ⟨x.f0, x.f1, x.f2, x.f3, x.f4, x.f5, x.f6, x.f7, x.f8, x.f9, x.f10.map symT, x.f11.map relT, x.f12⟩
def segT (x : S76) : S83 := ⟨x.f0, x.f1, x.f2, x.f3, x.f4, x.f5, x.f6⟩
/-- Where told stands: m its model's cell. -/
def TSt (w0 wx : World) (m : Nat) (MC PC RC : Array Value) : Prop :=
  wx.heap[m]? = some (.cells MC 48 (0, 0)) ∧ Below w0.heap.size w0 wx ∧ wx.heap[w0.heap.size]? = some (.cells PC 31 (0, 0)) ∧ wx.heap[w0.heap.size + 1]? = some (.cells RC 48 (0, 0)) ∧ w0.heap.size + 2 ≤ m
theorem TSt.below {w0 wx wy : World} {m : Nat} {MC PC RC : Array Value} (h : TSt w0 wx m MC PC RC) (hb : Below wx.heap.size wx wy) : TSt w0 wy m MC PC RC :=
  ⟨blk_below h.1 hb, h.2.1.trans (hb.mono h.2.1.size), blk_below h.2.2.1 hb, blk_below h.2.2.2.1 hb, h.2.2.2.2⟩
theorem TSt.put {w0 wx : World} {m : Nat} {MC MC' PC RC : Array Value} (h : TSt w0 wx m MC PC RC) (i : Nat) (u : Value) (e : MC.setIfInBounds i u = MC') : TSt w0 (wx.setCell ⟨m, i, none⟩ u) m MC' PC RC :=
  ⟨blk_put h.1 i _ e, h.2.1.setCell (by show w0.heap.size ≤ m; exact Nat.le_trans (by omega) h.2.2.2.2) _, blk_far h.2.2.1 (by show w0.heap.size ≠ m; exact Nat.ne_of_lt (Nat.lt_of_lt_of_le (by omega) h.2.2.2.2)) _, blk_far h.2.2.2.1 (by show w0.heap.size + 1 ≠ m; exact Nat.ne_of_lt (Nat.lt_of_lt_of_le (by omega) h.2.2.2.2)) _, h.2.2.2.2⟩
theorem TSt.far {w0 wx : World} {m g t : Nat} {cs MC PC RC : Array Value} (h : TSt w0 wx m MC PC RC) (hg : wx.heap[g]? = some (.cells cs t (0, 0))) (h1 : 48 ≠ t) (h2 : 31 ≠ t) (hge : w0.heap.size ≤ g) (i : Nat) (u : Value) : TSt w0 (wx.setCell ⟨g, i, none⟩ u) m MC PC RC :=
  ⟨blk_far h.1 (blk_ne h.1 hg h1) _, h.2.1.setCell hge _, blk_far h.2.2.1 (blk_ne h.2.2.1 hg h2) _, blk_far h.2.2.2.1 (blk_ne h.2.2.2.1 hg h1) _, h.2.2.2.2⟩
theorem TSt.grown {α : Type} {d : Kd α} {e : Nat} {ok : Nat → Prop} {v : Value} {xs : List α} {w0 wx w1 : World} {m : Nat} {MC PC RC : Array Value} (h : TSt w0 wx m MC PC RC) (hR : d.R e wx w0.heap.size ok v xs) (h1 : e ≠ 48) (h2 : e ≠ 31) (hG : wx.grownBy w1 v.ownBlock) (hB : Below w0.heap.size w0 w1) : TSt w0 w1 m MC PC RC :=
  ⟨blk_grown h.1 hG (Kd.R_ne hR h.1 h1), hB, blk_grown h.2.2.1 hG (Kd.R_ne hR h.2.2.1 h2), blk_grown h.2.2.2.1 hG (Kd.R_ne hR h.2.2.2.1 h1), h.2.2.2.2⟩
/-- .. inside a round: x at gx, y at gy. -/
def YQ (w0 wx : World) (m gx gy : Nat) (MC PC RC XC YC : Array Value) (v : Value) (L : List S80) (y10 y11 y12 : Value) (ys : List S81) (rs : List S82) (ms : List Int) : Prop :=
  TSt w0 wx m MC PC RC ∧ wx.heap[gx]? = some (.cells XC 54 (0, 0)) ∧ wx.heap[gy]? = some (.cells YC 80 (0, 0)) ∧ w0.heap.size ≤ gy ∧
  Kd.R k80 80 wx w0.heap.size (fun k => ((k ≠ gy ∧ some k ≠ y12.ownBlock) ∧ some k ≠ y11.ownBlock) ∧ some k ≠ y10.ownBlock) v L ∧
  Kd.R k81 81 wx w0.heap.size (fun _ => True) y10 ys ∧ Kd.R k82 82 wx w0.heap.size (fun _ => True) y11 rs ∧ (Kd.int .u64).R 27 wx w0.heap.size (fun _ => True) y12 ms
theorem YQ.below {w0 wx wy : World} {m gx gy : Nat} {MC PC RC XC YC : Array Value} {v : Value} {L : List S80} {y10 y11 y12 : Value} {ys : List S81} {rs : List S82} {ms : List Int} (h : YQ w0 wx m gx gy MC PC RC XC YC v L y10 y11 y12 ys rs ms) (hb : Below wx.heap.size wx wy) : YQ w0 wy m gx gy MC PC RC XC YC v L y10 y11 y12 ys rs ms :=
  ⟨h.1.below hb, blk_below h.2.1 hb, blk_below h.2.2.1 hb, h.2.2.2.1, Kd.R_below h.2.2.2.2.1 hb, Kd.R_below h.2.2.2.2.2.1 hb, Kd.R_below h.2.2.2.2.2.2.1 hb, Kd.R_below h.2.2.2.2.2.2.2 hb⟩
/-- A symbol more. -/
theorem YQ.sym {w0 wx w1 : World} {m gx gy : Nat} {MC PC RC XC YC YC' : Array Value} {v : Value} {L : List S80} {y10 y11 y12 z : Value} {ys zs : List S81} {rs : List S82} {ms : List Int} (h : YQ w0 wx m gx gy MC PC RC XC YC v L y10 y11 y12 ys rs ms) (hR : Kd.R k81 81 w1 w0.heap.size (fun _ => True) z zs) (hB : Below w0.heap.size w0 w1) (hG : wx.grownBy w1 y10.ownBlock) (hat : z.ownBlock = y10.ownBlock ∨ ∃ b, z.ownBlock = some b ∧ wx.heap.size ≤ b) (e : YC.setIfInBounds 10 z = YC') : YQ w0 (w1.setCell ⟨gy, 10, none⟩ z) m gx gy MC PC RC XC YC' v L z y11 y12 zs rs ms := by
  obtain ⟨h1, h2, h3, h4, h5, h6, h7, h8⟩ := h
  have g3 := blk_grown h3 hG (Kd.R_ne h6 h3 (by decide))
  refine ⟨(h1.grown h6 (by decide) (by decide) hG hB).far g3 (by decide) (by decide) h4 10 z, blk_far (blk_grown h2 hG (Kd.R_ne h6 h2 (by decide))) (blk_ne h2 h3 (by decide)) _, blk_put g3 10 _ e, h4, ?_, Kd.R_set hR g3 (by decide) 10 z, Kd.R_set (Kd.R_over' h7 (Kd.R_typed h6) (by decide) hG) g3 (by decide) 10 z, Kd.R_set (Kd.R_over' h8 (Kd.R_typed h6) (by decide) hG) g3 (by decide) 10 z⟩
  exact Kd.R_far (Kd.R_after h5 hG hat) (fun k hk => hk.1.1.1) z
/-- A relocation more. -/
theorem YQ.rel {w0 wx w1 : World} {m gx gy : Nat} {MC PC RC XC YC YC' : Array Value} {v : Value} {L : List S80} {y10 y11 y12 z : Value} {ys : List S81} {rs zs : List S82} {ms : List Int} (h : YQ w0 wx m gx gy MC PC RC XC YC v L y10 y11 y12 ys rs ms) (hR : Kd.R k82 82 w1 w0.heap.size (fun _ => True) z zs) (hB : Below w0.heap.size w0 w1) (hG : wx.grownBy w1 y11.ownBlock) (hat : z.ownBlock = y11.ownBlock ∨ ∃ b, z.ownBlock = some b ∧ wx.heap.size ≤ b) (e : YC.setIfInBounds 11 z = YC') : YQ w0 (w1.setCell ⟨gy, 11, none⟩ z) m gx gy MC PC RC XC YC' v L y10 z y12 ys zs ms := by
  obtain ⟨h1, h2, h3, h4, h5, h6, h7, h8⟩ := h
  have g3 := blk_grown h3 hG (Kd.R_ne h7 h3 (by decide))
  refine ⟨(h1.grown h7 (by decide) (by decide) hG hB).far g3 (by decide) (by decide) h4 11 z, blk_far (blk_grown h2 hG (Kd.R_ne h7 h2 (by decide))) (blk_ne h2 h3 (by decide)) _, blk_put g3 11 _ e, h4, ?_, Kd.R_set (Kd.R_over' h6 (Kd.R_typed h7) (by decide) hG) g3 (by decide) 11 z, Kd.R_set hR g3 (by decide) 11 z, Kd.R_set (Kd.R_over' h8 (Kd.R_typed h7) (by decide) hG) g3 (by decide) 11 z⟩
  have h5' := Kd.R_mono (ok' := fun k => ((k ≠ gy ∧ some k ≠ y12.ownBlock) ∧ some k ≠ y10.ownBlock) ∧ some k ≠ y11.ownBlock) h5 (fun k hk => ⟨⟨hk.1.1, hk.2⟩, hk.1.2⟩)
  exact Kd.R_mono (Kd.R_far (Kd.R_after h5' hG hat) (fun k hk => hk.1.1.1) z) (fun k hk => ⟨⟨hk.1.1, hk.2⟩, hk.1.2⟩)
/-- The section itself. -/
theorem YQ.sec {w0 wx w1 : World} {m gx gy : Nat} {MC MC' PC RC XC YC : Array Value} {v z : Value} {L L1 : List S80} {y10 y11 y12 : Value} {ys : List S81} {rs : List S82} {ms : List Int} (h : YQ w0 wx m gx gy MC PC RC XC YC v L y10 y11 y12 ys rs ms) (hR : Kd.R k80 80 w1 w0.heap.size (fun _ => True) z L1) (hB : Below w0.heap.size w0 w1) (hG : wx.grownBy w1 v.ownBlock) (e : MC.setIfInBounds 10 z = MC') : TSt w0 (w1.setCell ⟨m, 10, none⟩ z) m MC' PC RC ∧ Kd.R k80 80 (w1.setCell ⟨m, 10, none⟩ z) w0.heap.size (fun _ => True) z L1 := by
  have h1 := h.1.grown h.2.2.2.2.1 (by decide) (by decide) hG hB
  exact ⟨h1.put 10 z e, Kd.R_set hR h1.1 (by decide) 10 z⟩
/-- A segment more. -/
theorem TSt.seg {w0 wx w1 : World} {m : Nat} {MC MC' PC RC : Array Value} {v vs z : Value} {L : List S80} {D D1 : List S83} (h : TSt w0 wx m MC PC RC) (hL : Kd.R k80 80 wx w0.heap.size (fun _ => True) v L) (hD : Kd.R k83 83 wx w0.heap.size (fun _ => True) vs D) (hR : Kd.R k83 83 w1 w0.heap.size (fun _ => True) z D1) (hB : Below w0.heap.size w0 w1) (hG : wx.grownBy w1 vs.ownBlock) (e : MC.setIfInBounds 11 z = MC') : TSt w0 (w1.setCell ⟨m, 11, none⟩ z) m MC' PC RC ∧ Kd.R k80 80 (w1.setCell ⟨m, 11, none⟩ z) w0.heap.size (fun _ => True) v L ∧ Kd.R k83 83 (w1.setCell ⟨m, 11, none⟩ z) w0.heap.size (fun _ => True) z D1 := by
  have h1 := h.grown hD (by decide) (by decide) hG hB
  exact ⟨h1.put 11 z e, Kd.R_set (Kd.R_over' hL (Kd.R_typed hD) (by decide) hG) h1.1 (by decide) 11 z, Kd.R_set hR h1.1 (by decide) 11 z⟩
theorem sizeMod : (Tryz.prog.info? 48).map (·.size) = some 12 := by kernel_rfl
theorem infoSEC : (Tryz.prog.info? 80).map (fun i => (i.zero, i.size, i.bytes)) = some (some (.agg #[(.string ⟨#[]⟩), (.int .u64 0), (.int .u64 0), (.int .u64 0), (.int .u64 0), (.int .u64 0), (.int .u64 0), (.int .u64 0), (.int .u64 0), (.string ⟨#[]⟩), (.slice none 0 0), (.slice none 0 0), (.slice none 0 0)]), 13, 168) := info80
theorem putAll_far {w : World} {g g' : Nat} (h : g' ≠ g) : ∀ (vs : List Value) (i : Nat) (w : World), (putAll w g i vs).heap[g']? = w.heap[g']?
  | [], _, _ => rfl
  | v :: r, i, w => (putAll_far (w := w) h r (i + 1) _).trans (Below.heap_setCell w ⟨g, i, none⟩ v g' h)
theorem putAll_R2 {α : Type} {d : Kd α} {e base g : Nat} {v : Value} {xs : List α} {ok : Nat → Prop} (hok : ∀ k, ok k → k ≠ g) : ∀ (vs : List Value) (i : Nat) (w : World), d.R e w base ok v xs → d.R e (putAll w g i vs) base ok v xs
  | [], _, _, h => h
  | u :: r, i, w, h => putAll_R2 hok r (i + 1) _ (Kd.R_far (p := ⟨g, i, none⟩) h (fun k hk => hok k hk) u)
theorem putAll_RT {α : Type} {d : Kd α} {e base g t : Nat} {v : Value} {xs : List α} {cs : Array Value} {w : World} (h : d.R e w base (fun _ => True) v xs) (hg : w.heap[g]? = some (.cells cs t (0, 0))) (ht : ∀ q, q ∈ e :: d.E → q ≠ t) (vs : List Value) (i : Nat) : d.R e (putAll w g i vs) base (fun _ => True) v xs :=
  Kd.R_mono (putAll_R2 (fun _ hk => hk.2) vs i w (Kd.R_types h hg ht)) (fun _ _ => trivial)
theorem YQ.made {w0 W : World} {m gx gy : Nat} {MC PC RC XC : Array Value} {v : Value} {L : List S80} {y12 : Value} {ms : List Int} (olds vs : List Value) (hT : TSt w0 W m MC PC RC) (hx : W.heap[gx]? = some (.cells XC 54 (0, 0))) (hy : W.heap[gy]? = some (.cells olds.toArray 80 (0, 0))) (hge : w0.heap.size ≤ gy) (hv : Kd.R k80 80 W w0.heap.size (fun k => k ≠ gy ∧ some k ≠ y12.ownBlock) v L) (h12 : (Kd.int .u64).R 27 W w0.heap.size (fun _ => True) y12 ms) (hl : olds.length = vs.length) :
    YQ w0 (putAll W gy 0 vs) m gx gy MC PC RC XC vs.toArray v L (.slice none 0 0) (.slice none 0 0) y12 [] [] ms := by
  obtain ⟨t1, t2, t3, t4, t5⟩ := hT
  refine ⟨⟨(putAll_far (w := W) (blk_ne t1 hy (by decide)) _ _ _).trans t1, putAll_below hge vs 0 W t2, (putAll_far (w := W) (blk_ne t3 hy (by decide)) _ _ _).trans t3, (putAll_far (w := W) (blk_ne t4 hy (by decide)) _ _ _).trans t4, t5⟩, (putAll_far (w := W) (blk_ne hx hy (by decide)) _ _ _).trans hx, putAll_new olds vs hy hl, hge, ?_, Kd.R_nil _ _ _ _ _, Kd.R_nil _ _ _ _ _, putAll_RT h12 hy (by decide) vs 0⟩
  exact Kd.R_mono (putAll_R2 (fun k hk => hk.1) vs 0 W hv) (fun k hk => ⟨⟨⟨hk.1, hk.2⟩, by simp [Value.ownBlock]⟩, by simp [Value.ownBlock]⟩)
theorem YQ.new {w0 W : World} {m gx : Nat} {MC PC RC XC : Array Value} {v : Value} {L : List S80} {y12 : Value} {ms : List Int} (YC : Array Value) (hT : TSt w0 W m MC PC RC) (hx : W.heap[gx]? = some (.cells XC 54 (0, 0))) (hv : Kd.R k80 80 W w0.heap.size (fun k => True ∧ some k ≠ y12.ownBlock) v L) (h12 : (Kd.int .u64).R 27 W w0.heap.size (fun _ => True) y12 ms) :
    YQ w0 (W.alloc (.cells YC 80)) m gx W.heap.size MC PC RC XC YC v L (.slice none 0 0) (.slice none 0 0) y12 [] [] ms := by
  refine ⟨hT.below (below_alloc (Below.refl _ _) _), blk_alloc hx _, blk_new W _, hT.2.1.size, ?_, Kd.R_nil _ _ _ _ _, Kd.R_nil _ _ _ _ _, Kd.R_alloc h12 _⟩
  exact Kd.R_mono (Kd.R_alloc (Kd.R_bound hv) _) (fun k hk => ⟨⟨⟨Nat.ne_of_lt hk.2.2.1, hk.1.2⟩, by simp [Value.ownBlock]⟩, by simp [Value.ownBlock]⟩)
set_option maxRecDepth 100000 in
set_option maxHeartbeats 16000000 in
theorem told_any (wide big : Bool) (abi ver ty mc en fg nm : Int) (L : List S54) (D : List S76) (hLl : (L.length + 1) * 168 ≤ 140737488355328) (hDl : (D.length + 1) * 64 ≤ 140737488355328) (hX : ∀ x ∈ L, (x.f10.length + 1) * 64 ≤ 140737488355328 ∧ (x.f11.length + 1) * 32 ≤ 140737488355328 ∧ x.f12.length * 8 ≤ 140737488355328) (A9 A10 : Option Addr) (c9 c10 : Nat) (w : World) (hL : Kd.C k54 w A9 L.length L) (hD : Kd.C k76 w A10 D.length D) :
    Calls Tryz.prog 6 #[.agg #[.bool wide, .bool big, .int .u8 abi, .int .u8 ver, .int .u64 ty, .int .u64 mc, .int .u64 en, .int .u64 fg, .int .u64 nm, .slice A9 L.length c9, .slice A10 D.length c10]] w fun e w' => ∃ v9 v10, e = .returned (.agg #[.bool big, .bool wide, .int .u8 abi, .int .u8 ver, .string ⟨#[]⟩, .int .u64 ty, .int .u64 mc, .int .u64 en, .int .u64 fg, .int .u64 nm, v9, v10]) ∧ Kd.R k80 80 w' w.heap.size (fun _ => True) v9 (L.map secT) ∧ Kd.R k83 83 w' w.heap.size (fun _ => True) v10 (D.map segT) ∧ Below w.heap.size w w' := by
  have HL := Lib.hid hL
  have HD := Lib.hid hD
  clear hL hD
  go_enter Tryz.func6, Tryz.ntmps6
  go_upto_region 2 with (fail)
  obtain ⟨wB, hwB⟩ : ∃ wB, wB = ((w.alloc (.cells #[.bool wide, .bool big, .int .u8 abi, .int .u8 ver, .int .u64 ty, .int .u64 mc, .int .u64 en, .int .u64 fg, .int .u64 nm, .slice A9 L.length c9, .slice A10 D.length c10] 31)).alloc (.cells #[.bool false, .bool false, .int .u8 0, .int .u8 0, .string ⟨#[]⟩, .int .u64 0, .int .u64 0, .int .u64 0, .int .u64 0, .int .u64 0, .slice none 0 0, .slice none 0 0] 48)).alloc (.cells #[.bool false, .bool false, .int .u8 0, .int .u8 0, .string ⟨#[]⟩, .int .u64 ty, .int .u64 mc, .int .u64 en, .int .u64 fg, .int .u64 nm, .slice none 0 0, .slice none 0 0] 48) := ⟨_, rfl⟩
  have HT := Lib.hid (show TSt w wB (w.heap.size + 2) #[.bool false, .bool false, .int .u8 0, .int .u8 0, .string ⟨#[]⟩, .int .u64 ty, .int .u64 mc, .int .u64 en, .int .u64 fg, .int .u64 nm, .slice none 0 0, .slice none 0 0] #[.bool wide, .bool big, .int .u8 abi, .int .u8 ver, .int .u64 ty, .int .u64 mc, .int .u64 en, .int .u64 fg, .int .u64 nm, .slice A9 L.length c9, .slice A10 D.length c10] #[.bool false, .bool false, .int .u8 0, .int .u8 0, .string ⟨#[]⟩, .int .u64 0, .int .u64 0, .int .u64 0, .int .u64 0, .int .u64 0, .slice none 0 0, .slice none 0 0] from by
    have h1 := blk_new (w.alloc (.cells #[.bool wide, .bool big, .int .u8 abi, .int .u8 ver, .int .u64 ty, .int .u64 mc, .int .u64 en, .int .u64 fg, .int .u64 nm, .slice A9 L.length c9, .slice A10 D.length c10] 31)) (.cells #[.bool false, .bool false, .int .u8 0, .int .u8 0, .string ⟨#[]⟩, .int .u64 0, .int .u64 0, .int .u64 0, .int .u64 0, .int .u64 0, .slice none 0 0, .slice none 0 0] 48)
    have h2 := blk_new ((w.alloc (.cells #[.bool wide, .bool big, .int .u8 abi, .int .u8 ver, .int .u64 ty, .int .u64 mc, .int .u64 en, .int .u64 fg, .int .u64 nm, .slice A9 L.length c9, .slice A10 D.length c10] 31)).alloc (.cells #[.bool false, .bool false, .int .u8 0, .int .u8 0, .string ⟨#[]⟩, .int .u64 0, .int .u64 0, .int .u64 0, .int .u64 0, .int .u64 0, .slice none 0 0, .slice none 0 0] 48)) (.cells #[.bool false, .bool false, .int .u8 0, .int .u8 0, .string ⟨#[]⟩, .int .u64 ty, .int .u64 mc, .int .u64 en, .int .u64 fg, .int .u64 nm, .slice none 0 0, .slice none 0 0] 48)
    rw [World.size_alloc] at h1 h2
    rw [World.size_alloc] at h2
    rw [hwB]
    exact ⟨h2, (((Below.refl _ _).alloc (Nat.le_refl _) _).alloc (by simp) _).alloc (by simp; omega) _, blk_alloc (blk_alloc (blk_new w _) _) _, blk_alloc h1 _, Nat.le_refl _⟩)
  rw [← hwB]
  clear hwB
  obtain ⟨m, hm⟩ : ∃ m, m = w.heap.size + 2 := ⟨_, rfl⟩
  rw [← hm] at HT
  first | rw [← hm] | (rw [show w.heap.size + 1 + 1 = m from hm.symm])
  have hm0 : w.heap.size ≠ m := by omega
  have HTd := Lib.hid (HT.out.below (show Below wB.heap.size wB wB.drew from below_drew1 (Below.refl _ _)))
  clear HT hm
  refine start_ (n := 23) (S := fun w' => w'.cell? ⟨w.heap.size, 0, none⟩ = some (.bool wide) ∧ w'.cell? ⟨w.heap.size, 1, none⟩ = some (.bool big) ∧ w'.cell? ⟨w.heap.size, 2, none⟩ = some (.int .u8 abi) ∧ w'.cell? ⟨w.heap.size, 3, none⟩ = some (.int .u8 ver)) (ds := [22]) #[false, false, false, false, false, false, false, false, false, false, false, false, false, false, false, false, false, false, false, false, false, false, false] (by kernel_rfl) (by rfl) (by rfl) ⟨blk_cell HTd.out.2.2.1 0, blk_cell HTd.out.2.2.1 1, blk_cell HTd.out.2.2.1 2, blk_cell HTd.out.2.2.1 3⟩ (fun hHeld => ?_)
  generalize wB.drew = wd at HTd hHeld ⊢
  refine pure_ (i := 0) (N := some 21) (v := ?_) (a' := ?_) #[true, false, false, false, false, false, false, false, false, false, false, false, false, false, false, false, false, false, false, false, false, false, false] rfl rfl (by kernel_rfl) (fun _ _ _ h => h) (Or.inl ⟨by rfl, ?_⟩) ?_ ?_
  rotate_left
  · intro w'
    go_simp
    with_reducible rfl
  rotate_left
  · simp only [Act.put, List.setIfInBounds_toArray, List.set_cons_zero, List.set_cons_succ]
    rfl
  refine pure_ (i := 2) (N := some 23) (v := ?_) (a' := ?_) #[true, false, true, false, false, false, false, false, false, false, false, false, false, false, false, false, false, false, false, false, false, false, false] rfl rfl (by kernel_rfl) (fun _ _ _ h => h) (Or.inl ⟨by rfl, ?_⟩) ?_ ?_
  rotate_left
  · intro w'
    go_simp
    with_reducible rfl
  rotate_left
  · simp only [Act.put, List.setIfInBounds_toArray, List.set_cons_zero, List.set_cons_succ]
    rfl
  refine pure_ (i := 4) (N := some 25) (v := ?_) (a' := ?_) #[true, false, true, false, true, false, false, false, false, false, false, false, false, false, false, false, false, false, false, false, false, false, false] rfl rfl (by kernel_rfl) (fun _ _ _ h => h) (Or.inl ⟨by rfl, ?_⟩) ?_ ?_
  rotate_left
  · intro w'
    go_simp
    with_reducible rfl
  rotate_left
  · simp only [Act.put, List.setIfInBounds_toArray, List.set_cons_zero, List.set_cons_succ]
    rfl
  refine pure_ (i := 6) (N := some 27) (v := ?_) (a' := ?_) #[true, false, true, false, true, false, true, false, false, false, false, false, false, false, false, false, false, false, false, false, false, false, false] rfl rfl (by kernel_rfl) (fun _ _ _ h => h) (Or.inl ⟨by rfl, ?_⟩) ?_ ?_
  rotate_left
  · intro w'
    go_simp
    with_reducible rfl
  rotate_left
  · simp only [Act.put, List.setIfInBounds_toArray, List.set_cons_zero, List.set_cons_succ]
    rfl
  refine take_ (i := 1) (N := some 22) (v := ?_) (a' := ?_) #[true, true, true, false, true, false, true, false, false, false, false, false, false, false, false, false, false, false, false, false, false, false, false] rfl rfl (by kernel_rfl) (fun _ _ _ h => h) (Or.inl ⟨by rfl, ?_⟩) hHeld ?_ ?_
  rotate_left
  · rintro w' ⟨s0, s1, s2, s3⟩
    go_simp
    with_reducible rfl
  rotate_left
  · simp only [Act.put, List.setIfInBounds_toArray, List.set_cons_zero, List.set_cons_succ]
    rfl
  refine take_ (i := 3) (N := some 24) (v := ?_) (a' := ?_) #[true, true, true, true, true, false, true, false, false, false, false, false, false, false, false, false, false, false, false, false, false, false, false] rfl rfl (by kernel_rfl) (fun _ _ _ h => h) (Or.inl ⟨by rfl, ?_⟩) hHeld ?_ ?_
  rotate_left
  · rintro w' ⟨s0, s1, s2, s3⟩
    go_simp
    with_reducible rfl
  rotate_left
  · simp only [Act.put, List.setIfInBounds_toArray, List.set_cons_zero, List.set_cons_succ]
    rfl
  refine take_ (i := 5) (N := some 26) (v := ?_) (a' := ?_) #[true, true, true, true, true, true, true, false, false, false, false, false, false, false, false, false, false, false, false, false, false, false, false] rfl rfl (by kernel_rfl) (fun _ _ _ h => h) (Or.inl ⟨by rfl, ?_⟩) hHeld ?_ ?_
  rotate_left
  · rintro w' ⟨s0, s1, s2, s3⟩
    go_simp
    with_reducible rfl
  rotate_left
  · simp only [Act.put, List.setIfInBounds_toArray, List.set_cons_zero, List.set_cons_succ]
    rfl
  refine take_ (i := 7) (N := some 28) (v := ?_) (a' := ?_) #[true, true, true, true, true, true, true, true, false, false, false, false, false, false, false, false, false, false, false, false, false, false, false] rfl rfl (by kernel_rfl) (fun _ _ _ h => h) (Or.inl ⟨by rfl, ?_⟩) hHeld ?_ ?_
  rotate_left
  · rintro w' ⟨s0, s1, s2, s3⟩
    go_simp
    with_reducible rfl
  rotate_left
  · simp only [Act.put, List.setIfInBounds_toArray, List.set_cons_zero, List.set_cons_succ]
    rfl
  refine pure_ (i := 8) (N := some 29) (v := ?_) (a' := ?_) #[true, true, true, true, true, true, true, true, true, false, false, false, false, false, false, false, false, false, false, false, false, false, false] rfl rfl (by kernel_rfl) (fun _ _ _ h => h) (Or.inl ⟨by rfl, ?_⟩) ?_ ?_
  rotate_left
  · intro w'
    go_simp
    with_reducible rfl
  rotate_left
  · simp only [Act.put, List.setIfInBounds_toArray, List.set_cons_zero, List.set_cons_succ]
    rfl
  refine pure_ (i := 9) (N := some 30) (v := ?_) (a' := ?_) #[true, true, true, true, true, true, true, true, true, true, false, false, false, false, false, false, false, false, false, false, false, false, false] rfl rfl (by kernel_rfl) (fun _ _ _ h => h) (Or.inl ⟨by rfl, ?_⟩) ?_ ?_
  rotate_left
  · intro w'
    go_simp
    with_reducible rfl
  rotate_left
  · simp only [Act.put, List.setIfInBounds_toArray, List.set_cons_zero, List.set_cons_succ]
    rfl
  refine pure_ (i := 10) (N := some 31) (v := ?_) (a' := ?_) #[true, true, true, true, true, true, true, true, true, true, true, false, false, false, false, false, false, false, false, false, false, false, false] rfl rfl (by kernel_rfl) (fun _ _ _ h => h) (Or.inl ⟨by rfl, ?_⟩) ?_ ?_
  rotate_left
  · intro w'
    go_simp
    with_reducible rfl
  rotate_left
  · simp only [Act.put, List.setIfInBounds_toArray, List.set_cons_zero, List.set_cons_succ]
    rfl
  have q1 := blk_cell HTd.out.1 1
  have z1 := blk_frozen HTd.out.1 1
  simp only [List.getElem?_toArray, List.getElem?_cons_succ, List.getElem?_cons_zero] at q1
  have HTe := Lib.hid (HTd.out.put (MC' := #[.bool false, .bool wide, .int .u8 0, .int .u8 0, .string ⟨#[]⟩, .int .u64 ty, .int .u64 mc, .int .u64 en, .int .u64 fg, .int .u64 nm, .slice none 0 0, .slice none 0 0]) 1 (.bool wide) rfl)
  refine one_ (i := 11) (N := none) #[true, true, true, true, true, true, true, true, true, true, true, true, false, false, false, false, false, false, false, false, false, false, false] rfl rfl (by kernel_rfl) (by decide) (fun K hK => ?_)
  refine skip_ (w1 := ?_) (by rfl) rfl ?_ ?_
  rotate_left
  · go_simp
    rfl
  refine hK.out _ _ ⟨blk_cell HTe.out.2.2.1 0, blk_cell HTe.out.2.2.1 1, blk_cell HTe.out.2.2.1 2, blk_cell HTe.out.2.2.1 3⟩ (fun hHeld => ?_)
  clear hK K
  clear q1 z1 HTd
  have HTd := HTe
  clear HTe
  refine pure_ (i := 12) (N := some 32) (v := ?_) (a' := ?_) #[true, true, true, true, true, true, true, true, true, true, true, true, true, false, false, false, false, false, false, false, false, false, false] rfl rfl (by kernel_rfl) (fun _ _ _ h => h) (Or.inl ⟨by rfl, ?_⟩) ?_ ?_
  rotate_left
  · intro w'
    go_simp
    with_reducible rfl
  rotate_left
  · simp only [Act.put, List.setIfInBounds_toArray, List.set_cons_zero, List.set_cons_succ]
    rfl
  refine pure_ (i := 13) (N := some 33) (v := ?_) (a' := ?_) #[true, true, true, true, true, true, true, true, true, true, true, true, true, true, false, false, false, false, false, false, false, false, false] rfl rfl (by kernel_rfl) (fun _ _ _ h => h) (Or.inl ⟨by rfl, ?_⟩) ?_ ?_
  rotate_left
  · intro w'
    go_simp
    with_reducible rfl
  rotate_left
  · simp only [Act.put, List.setIfInBounds_toArray, List.set_cons_zero, List.set_cons_succ]
    rfl
  refine pure_ (i := 14) (N := some 34) (v := ?_) (a' := ?_) #[true, true, true, true, true, true, true, true, true, true, true, true, true, true, true, false, false, false, false, false, false, false, false] rfl rfl (by kernel_rfl) (fun _ _ _ h => h) (Or.inl ⟨by rfl, ?_⟩) ?_ ?_
  rotate_left
  · intro w'
    go_simp
    with_reducible rfl
  rotate_left
  · simp only [Act.put, List.setIfInBounds_toArray, List.set_cons_zero, List.set_cons_succ]
    rfl
  refine pure_ (i := 15) (N := some 35) (v := ?_) (a' := ?_) #[true, true, true, true, true, true, true, true, true, true, true, true, true, true, true, true, false, false, false, false, false, false, false] rfl rfl (by kernel_rfl) (fun _ _ _ h => h) (Or.inl ⟨by rfl, ?_⟩) ?_ ?_
  rotate_left
  · intro w'
    go_simp
    with_reducible rfl
  rotate_left
  · simp only [Act.put, List.setIfInBounds_toArray, List.set_cons_zero, List.set_cons_succ]
    rfl
  have q1 := blk_cell HTd.out.1 0
  have z1 := blk_frozen HTd.out.1 0
  simp only [List.getElem?_toArray, List.getElem?_cons_succ, List.getElem?_cons_zero] at q1
  have HTe := Lib.hid (HTd.out.put (MC' := #[.bool big, .bool wide, .int .u8 0, .int .u8 0, .string ⟨#[]⟩, .int .u64 ty, .int .u64 mc, .int .u64 en, .int .u64 fg, .int .u64 nm, .slice none 0 0, .slice none 0 0]) 0 (.bool big) rfl)
  refine one_ (i := 16) (N := none) #[true, true, true, true, true, true, true, true, true, true, true, true, true, true, true, true, true, false, false, false, false, false, false] rfl rfl (by kernel_rfl) (by decide) (fun K hK => ?_)
  refine skip_ (w1 := ?_) (by rfl) rfl ?_ ?_
  rotate_left
  · go_simp
    rfl
  refine hK.out _ _ ⟨blk_cell HTe.out.2.2.1 0, blk_cell HTe.out.2.2.1 1, blk_cell HTe.out.2.2.1 2, blk_cell HTe.out.2.2.1 3⟩ (fun hHeld => ?_)
  clear hK K
  clear q1 z1 HTd
  have HTd := HTe
  clear HTe
  refine pure_ (i := 17) (N := some 36) (v := ?_) (a' := ?_) #[true, true, true, true, true, true, true, true, true, true, true, true, true, true, true, true, true, true, false, false, false, false, false] rfl rfl (by kernel_rfl) (fun _ _ _ h => h) (Or.inl ⟨by rfl, ?_⟩) ?_ ?_
  rotate_left
  · intro w'
    go_simp
    with_reducible rfl
  rotate_left
  · simp only [Act.put, List.setIfInBounds_toArray, List.set_cons_zero, List.set_cons_succ]
    rfl
  refine pure_ (i := 18) (N := some 37) (v := ?_) (a' := ?_) #[true, true, true, true, true, true, true, true, true, true, true, true, true, true, true, true, true, true, true, false, false, false, false] rfl rfl (by kernel_rfl) (fun _ _ _ h => h) (Or.inl ⟨by rfl, ?_⟩) ?_ ?_
  rotate_left
  · intro w'
    go_simp
    with_reducible rfl
  rotate_left
  · simp only [Act.put, List.setIfInBounds_toArray, List.set_cons_zero, List.set_cons_succ]
    rfl
  have q1 := blk_cell HTd.out.1 2
  have z1 := blk_frozen HTd.out.1 2
  simp only [List.getElem?_toArray, List.getElem?_cons_succ, List.getElem?_cons_zero] at q1
  have HTe := Lib.hid (HTd.out.put (MC' := #[.bool big, .bool wide, .int .u8 abi, .int .u8 0, .string ⟨#[]⟩, .int .u64 ty, .int .u64 mc, .int .u64 en, .int .u64 fg, .int .u64 nm, .slice none 0 0, .slice none 0 0]) 2 (.int .u8 abi) rfl)
  refine one_ (i := 19) (N := none) #[true, true, true, true, true, true, true, true, true, true, true, true, true, true, true, true, true, true, true, true, false, false, false] rfl rfl (by kernel_rfl) (by decide) (fun K hK => ?_)
  refine skip_ (w1 := ?_) (by rfl) rfl ?_ ?_
  rotate_left
  · go_simp
    rfl
  refine hK.out _ _ ⟨blk_cell HTe.out.2.2.1 0, blk_cell HTe.out.2.2.1 1, blk_cell HTe.out.2.2.1 2, blk_cell HTe.out.2.2.1 3⟩ (fun hHeld => ?_)
  clear hK K
  clear q1 z1 HTd
  have HTd := HTe
  clear HTe
  refine pure_ (i := 20) (N := some 38) (v := ?_) (a' := ?_) #[true, true, true, true, true, true, true, true, true, true, true, true, true, true, true, true, true, true, true, true, true, false, false] rfl rfl (by kernel_rfl) (fun _ _ _ h => h) (Or.inl ⟨by rfl, ?_⟩) ?_ ?_
  rotate_left
  · intro w'
    go_simp
    with_reducible rfl
  rotate_left
  · simp only [Act.put, List.setIfInBounds_toArray, List.set_cons_zero, List.set_cons_succ]
    rfl
  refine pure_ (i := 21) (N := some 39) (v := ?_) (a' := ?_) #[true, true, true, true, true, true, true, true, true, true, true, true, true, true, true, true, true, true, true, true, true, true, false] rfl rfl (by kernel_rfl) (fun _ _ _ h => h) (Or.inl ⟨by rfl, ?_⟩) ?_ ?_
  rotate_left
  · intro w'
    go_simp
    with_reducible rfl
  rotate_left
  · simp only [Act.put, List.setIfInBounds_toArray, List.set_cons_zero, List.set_cons_succ]
    rfl
  have q1 := blk_cell HTd.out.1 3
  have z1 := blk_frozen HTd.out.1 3
  simp only [List.getElem?_toArray, List.getElem?_cons_succ, List.getElem?_cons_zero] at q1
  have HTe := Lib.hid (HTd.out.put (MC' := #[.bool big, .bool wide, .int .u8 abi, .int .u8 ver, .string ⟨#[]⟩, .int .u64 ty, .int .u64 mc, .int .u64 en, .int .u64 fg, .int .u64 nm, .slice none 0 0, .slice none 0 0]) 3 (.int .u8 ver) rfl)
  refine last_ (i := 22) (N := none) #[true, true, true, true, true, true, true, true, true, true, true, true, true, true, true, true, true, true, true, true, true, true, true] rfl rfl (by kernel_rfl) (by decide) (fun K hK => ?_)
  refine skip_ (w1 := ?_) (by rfl) rfl ?_ ?_
  rotate_left
  · go_simp
    rfl
  refine hK.out _ _ ?_
  clear hK K
  clear q1 z1 HTd
  have HTd := HTe
  clear HTe
  refine done_ (by kernel_rfl) ?_
  go_wp2
  go_loopw [4] (fun i wr => ∃ (k : Nat) (v : Value), k ≤ L.length ∧ i = .int .i64 k ∧ Hid (TSt w wr m #[.bool big, .bool wide, .int .u8 abi, .int .u8 ver, .string ⟨#[]⟩, .int .u64 ty, .int .u64 mc, .int .u64 en, .int .u64 fg, .int .u64 nm, v, .slice none 0 0] #[.bool wide, .bool big, .int .u8 abi, .int .u8 ver, .int .u64 ty, .int .u64 mc, .int .u64 en, .int .u64 fg, .int .u64 nm, .slice A9 L.length c9, .slice A10 D.length c10] #[.bool false, .bool false, .int .u8 0, .int .u8 0, .string ⟨#[]⟩, .int .u64 0, .int .u64 0, .int .u64 0, .int .u64 0, .int .u64 0, .slice none 0 0, .slice none 0 0] ∧ Kd.R k80 80 wr w.heap.size (fun _ => True) v ((L.take k).map secT))) (fun i _ => L.length - (intOf i).toNat)
  case atStart => exact ⟨0, _, Nat.zero_le _, rfl, Lib.hid ⟨HTd.out, by simpa using Kd.R_nil _ _ _ _ _⟩⟩
  case round =>
    obtain ⟨k, v, hk1, rfl, HH⟩ := hrel
    clear HTd hHeld
    have p9b := blk_cell HH.out.1.2.2.1 9
    simp only [List.getElem?_toArray, List.getElem?_cons_succ, List.getElem?_cons_zero] at p9b
    by_cases hlt : k < L.length
    · obtain ⟨ad, B10, d10, B11, d11, B12, d12, hA, o0, o1, o2, o3, o4, o5, o6, o7, o8, o9, o10, o11, o12, l10, g10, l11, g11, l12, g12⟩ := at_T54 HL.out (k : Int) (by omega) (by omega)
      subst hA
      rw [Int.toNat_natCast] at o0 o1 o2 o3 o4 o5 o6 o7 o8 o9 o10 o11 o12
      obtain ⟨x, hxe⟩ : ∃ x, x = rd_T54 L (k : Int) := ⟨_, rfl⟩
      have HX := Lib.hid (show x = L[k] by rw [hxe]; unfold rd_T54; rw [Int.toNat_natCast]; simp [List.getD, hlt])
      rw [← hxe] at o0 o1 o2 o3 o4 o5 o6 o7 o8 o9 o10 o11 o12 l10 g10 l11 g11 l12 g12
      clear hxe
      have hx := hX x (by rw [HX.out]; exact List.getElem_mem hlt)
      have HG10 := Lib.hid g10
      have HG11 := Lib.hid g11
      have HG12 := Lib.hid g12
      have p0 := (HH.out.1.2.1.cell (World.block_lt_of_cell? w _ o0)).trans o0
      have p1 := (HH.out.1.2.1.cell (World.block_lt_of_cell? w _ o1)).trans o1
      have p2 := (HH.out.1.2.1.cell (World.block_lt_of_cell? w _ o2)).trans o2
      have p3 := (HH.out.1.2.1.cell (World.block_lt_of_cell? w _ o3)).trans o3
      have p4 := (HH.out.1.2.1.cell (World.block_lt_of_cell? w _ o4)).trans o4
      have p5 := (HH.out.1.2.1.cell (World.block_lt_of_cell? w _ o5)).trans o5
      have p6 := (HH.out.1.2.1.cell (World.block_lt_of_cell? w _ o6)).trans o6
      have p7 := (HH.out.1.2.1.cell (World.block_lt_of_cell? w _ o7)).trans o7
      have p8 := (HH.out.1.2.1.cell (World.block_lt_of_cell? w _ o8)).trans o8
      have p9 := (HH.out.1.2.1.cell (World.block_lt_of_cell? w _ o9)).trans o9
      have p10 := (HH.out.1.2.1.cell (World.block_lt_of_cell? w _ o10)).trans o10
      have p11 := (HH.out.1.2.1.cell (World.block_lt_of_cell? w _ o11)).trans o11
      have p12 := (HH.out.1.2.1.cell (World.block_lt_of_cell? w _ o12)).trans o12
      clear o0 o1 o2 o3 o4 o5 o6 o7 o8 o9 o10 o11 o12 g10 g11 g12
      obtain ⟨L0, hL0⟩ : ∃ L0, L0 = (L.take k).map secT := ⟨_, rfl⟩
      have HLS := Lib.hid (show (L.take (k + 1)).map secT = L0 ++ [secT x] by rw [hL0, HX.out, List.take_succ_eq_append_getElem hlt, List.map_append]; rfl)
      have hL0l : (L0.length + 1) * 168 ≤ 140737488355328 := by rw [hL0, List.length_map, List.length_take]; omega
      rw [← hL0] at HH
      clear hL0
      obtain ⟨Av, cv, rfl⟩ := Kd.R_slice HH.out.2
      go_upto_region 7 with (fail)
      obtain ⟨wX, hwX⟩ : ∃ wX, wX = wr.alloc (.cells #[.string x.f0, .int .u64 x.f1, .int .u64 x.f2, .int .u64 x.f3, .int .u64 x.f4, .int .u64 x.f5, .int .u64 x.f6, .int .u64 x.f7, .int .u64 x.f8, .string x.f9, .slice B10 x.f10.length d10, .slice B11 x.f11.length d11, .slice B12 x.f12.length d12] 54) := ⟨_, rfl⟩
      have HTX := Lib.hid (show TSt w wX m #[.bool big, .bool wide, .int .u8 abi, .int .u8 ver, .string ⟨#[]⟩, .int .u64 ty, .int .u64 mc, .int .u64 en, .int .u64 fg, .int .u64 nm, .slice Av L0.length cv, .slice none 0 0] #[.bool wide, .bool big, .int .u8 abi, .int .u8 ver, .int .u64 ty, .int .u64 mc, .int .u64 en, .int .u64 fg, .int .u64 nm, .slice (some ad) L.length c9, .slice A10 D.length c10] #[.bool false, .bool false, .int .u8 0, .int .u8 0, .string ⟨#[]⟩, .int .u64 0, .int .u64 0, .int .u64 0, .int .u64 0, .int .u64 0, .slice none 0 0, .slice none 0 0] from by rw [hwX]; exact HH.out.1.below (below_alloc (Below.refl _ _) _))
      have HVX := Lib.hid (show Kd.R k80 80 wX w.heap.size (fun _ => True) (.slice Av L0.length cv) L0 from by rw [hwX]; exact Kd.R_alloc HH.out.2 _)
      have HXX := Lib.hid (show wX.heap[wr.heap.size]? = some (.cells #[.string x.f0, .int .u64 x.f1, .int .u64 x.f2, .int .u64 x.f3, .int .u64 x.f4, .int .u64 x.f5, .int .u64 x.f6, .int .u64 x.f7, .int .u64 x.f8, .string x.f9, .slice B10 x.f10.length d10, .slice B11 x.f11.length d11, .slice B12 x.f12.length d12] 54 (0, 0)) by rw [hwX]; exact blk_new wr _)
      rw [← hwX]
      clear hwX HH p0 p1 p2 p3 p4 p5 p6 p7 p8 p9 p10 p11 p12 p9b
      obtain ⟨gx, hgx⟩ : ∃ gx, gx = wr.heap.size := ⟨_, rfl⟩
      rw [← hgx] at HXX ⊢
      clear hgx
      go_cut [6] from 40 to 116 (fun s6 wx => ∃ (gy : Nat) (y12 : Value), s6 = .pointer (some ⟨gy, 0, none⟩) ∧ Hid (YQ w wx m gx gy #[.bool big, .bool wide, .int .u8 abi, .int .u8 ver, .string ⟨#[]⟩, .int .u64 ty, .int .u64 mc, .int .u64 en, .int .u64 fg, .int .u64 nm, .slice Av L0.length cv, .slice none 0 0] #[.bool wide, .bool big, .int .u8 abi, .int .u8 ver, .int .u64 ty, .int .u64 mc, .int .u64 en, .int .u64 fg, .int .u64 nm, .slice (some ad) L.length c9, .slice A10 D.length c10] #[.bool false, .bool false, .int .u8 0, .int .u8 0, .string ⟨#[]⟩, .int .u64 0, .int .u64 0, .int .u64 0, .int .u64 0, .int .u64 0, .slice none 0 0, .slice none 0 0] #[.string x.f0, .int .u64 x.f1, .int .u64 x.f2, .int .u64 x.f3, .int .u64 x.f4, .int .u64 x.f5, .int .u64 x.f6, .int .u64 x.f7, .int .u64 x.f8, .string x.f9, .slice B10 x.f10.length d10, .slice B11 x.f11.length d11, .slice B12 x.f12.length d12] #[.string x.f0, .int .u64 x.f1, .int .u64 x.f2, .int .u64 x.f3, .int .u64 x.f4, .int .u64 x.f5, .int .u64 x.f6, .int .u64 x.f7, .int .u64 x.f8, .string x.f9, .slice none 0 0, .slice none 0 0, y12] (.slice Av L0.length cv) L0 (.slice none 0 0) (.slice none 0 0) y12 [] [] x.f12))
      case first =>
        have HTd := Lib.hid (HTX.out.below (show Below wX.heap.size wX wX.drew from below_drew1 (Below.refl _ _)))
        have HVd := Lib.hid (Kd.R_drew HVX.out)
        have HXd := Lib.hid (blk_drew HXX.out)
        refine start_ (n := 27) (S := fun w' => w'.cell? ⟨gx, 0, none⟩ = some (.string x.f0) ∧ w'.cell? ⟨gx, 1, none⟩ = some (.int .u64 x.f1) ∧ w'.cell? ⟨gx, 2, none⟩ = some (.int .u64 x.f2) ∧ w'.cell? ⟨gx, 3, none⟩ = some (.int .u64 x.f3) ∧ w'.cell? ⟨gx, 4, none⟩ = some (.int .u64 x.f4) ∧ w'.cell? ⟨gx, 5, none⟩ = some (.int .u64 x.f5) ∧ w'.cell? ⟨gx, 6, none⟩ = some (.int .u64 x.f6) ∧ w'.cell? ⟨gx, 7, none⟩ = some (.int .u64 x.f7) ∧ w'.cell? ⟨gx, 8, none⟩ = some (.int .u64 x.f8) ∧ w'.cell? ⟨gx, 9, none⟩ = some (.string x.f9) ∧ w'.cell? ⟨gx, 12, none⟩ = some (.slice B12 x.f12.length d12)) (ds := [26]) #[false, false, false, false, false, false, false, false, false, false, false, false, false, false, false, false, false, false, false, false, false, false, false, false, false, false, false] (by kernel_rfl) (by rfl) (by rfl) ⟨blk_cell HXd.out 0, blk_cell HXd.out 1, blk_cell HXd.out 2, blk_cell HXd.out 3, blk_cell HXd.out 4, blk_cell HXd.out 5, blk_cell HXd.out 6, blk_cell HXd.out 7, blk_cell HXd.out 8, blk_cell HXd.out 9, blk_cell HXd.out 12⟩ (fun hHeld => ?_)
        generalize wX.drew = wd at HTd HVd HXd hHeld ⊢
        clear HTX HVX HXX
        refine pure_ (i := 0) (N := some 52) (v := ?_) (a' := ?_) #[true, false, false, false, false, false, false, false, false, false, false, false, false, false, false, false, false, false, false, false, false, false, false, false, false, false, false] rfl rfl (by kernel_rfl) (fun _ _ _ h => h) (Or.inl ⟨by rfl, ?_⟩) ?_ ?_
        rotate_left
        · intro w'
          go_simp
          with_reducible rfl
        rotate_left
        · simp only [Act.put, List.setIfInBounds_toArray, List.set_cons_zero, List.set_cons_succ]
          rfl
        refine pure_ (i := 2) (N := some 54) (v := ?_) (a' := ?_) #[true, false, true, false, false, false, false, false, false, false, false, false, false, false, false, false, false, false, false, false, false, false, false, false, false, false, false] rfl rfl (by kernel_rfl) (fun _ _ _ h => h) (Or.inl ⟨by rfl, ?_⟩) ?_ ?_
        rotate_left
        · intro w'
          go_simp
          with_reducible rfl
        rotate_left
        · simp only [Act.put, List.setIfInBounds_toArray, List.set_cons_zero, List.set_cons_succ]
          rfl
        refine pure_ (i := 4) (N := some 56) (v := ?_) (a' := ?_) #[true, false, true, false, true, false, false, false, false, false, false, false, false, false, false, false, false, false, false, false, false, false, false, false, false, false, false] rfl rfl (by kernel_rfl) (fun _ _ _ h => h) (Or.inl ⟨by rfl, ?_⟩) ?_ ?_
        rotate_left
        · intro w'
          go_simp
          with_reducible rfl
        rotate_left
        · simp only [Act.put, List.setIfInBounds_toArray, List.set_cons_zero, List.set_cons_succ]
          rfl
        refine pure_ (i := 6) (N := some 58) (v := ?_) (a' := ?_) #[true, false, true, false, true, false, true, false, false, false, false, false, false, false, false, false, false, false, false, false, false, false, false, false, false, false, false] rfl rfl (by kernel_rfl) (fun _ _ _ h => h) (Or.inl ⟨by rfl, ?_⟩) ?_ ?_
        rotate_left
        · intro w'
          go_simp
          with_reducible rfl
        rotate_left
        · simp only [Act.put, List.setIfInBounds_toArray, List.set_cons_zero, List.set_cons_succ]
          rfl
        refine pure_ (i := 8) (N := some 60) (v := ?_) (a' := ?_) #[true, false, true, false, true, false, true, false, true, false, false, false, false, false, false, false, false, false, false, false, false, false, false, false, false, false, false] rfl rfl (by kernel_rfl) (fun _ _ _ h => h) (Or.inl ⟨by rfl, ?_⟩) ?_ ?_
        rotate_left
        · intro w'
          go_simp
          with_reducible rfl
        rotate_left
        · simp only [Act.put, List.setIfInBounds_toArray, List.set_cons_zero, List.set_cons_succ]
          rfl
        refine pure_ (i := 10) (N := some 62) (v := ?_) (a' := ?_) #[true, false, true, false, true, false, true, false, true, false, true, false, false, false, false, false, false, false, false, false, false, false, false, false, false, false, false] rfl rfl (by kernel_rfl) (fun _ _ _ h => h) (Or.inl ⟨by rfl, ?_⟩) ?_ ?_
        rotate_left
        · intro w'
          go_simp
          with_reducible rfl
        rotate_left
        · simp only [Act.put, List.setIfInBounds_toArray, List.set_cons_zero, List.set_cons_succ]
          rfl
        refine pure_ (i := 12) (N := some 64) (v := ?_) (a' := ?_) #[true, false, true, false, true, false, true, false, true, false, true, false, true, false, false, false, false, false, false, false, false, false, false, false, false, false, false] rfl rfl (by kernel_rfl) (fun _ _ _ h => h) (Or.inl ⟨by rfl, ?_⟩) ?_ ?_
        rotate_left
        · intro w'
          go_simp
          with_reducible rfl
        rotate_left
        · simp only [Act.put, List.setIfInBounds_toArray, List.set_cons_zero, List.set_cons_succ]
          rfl
        refine pure_ (i := 14) (N := some 66) (v := ?_) (a' := ?_) #[true, false, true, false, true, false, true, false, true, false, true, false, true, false, true, false, false, false, false, false, false, false, false, false, false, false, false] rfl rfl (by kernel_rfl) (fun _ _ _ h => h) (Or.inl ⟨by rfl, ?_⟩) ?_ ?_
        rotate_left
        · intro w'
          go_simp
          with_reducible rfl
        rotate_left
        · simp only [Act.put, List.setIfInBounds_toArray, List.set_cons_zero, List.set_cons_succ]
          rfl
        refine pure_ (i := 16) (N := some 68) (v := ?_) (a' := ?_) #[true, false, true, false, true, false, true, false, true, false, true, false, true, false, true, false, true, false, false, false, false, false, false, false, false, false, false] rfl rfl (by kernel_rfl) (fun _ _ _ h => h) (Or.inl ⟨by rfl, ?_⟩) ?_ ?_
        rotate_left
        · intro w'
          go_simp
          with_reducible rfl
        rotate_left
        · simp only [Act.put, List.setIfInBounds_toArray, List.set_cons_zero, List.set_cons_succ]
          rfl
        refine pure_ (i := 18) (N := some 70) (v := ?_) (a' := ?_) #[true, false, true, false, true, false, true, false, true, false, true, false, true, false, true, false, true, false, true, false, false, false, false, false, false, false, false] rfl rfl (by kernel_rfl) (fun _ _ _ h => h) (Or.inl ⟨by rfl, ?_⟩) ?_ ?_
        rotate_left
        · intro w'
          go_simp
          with_reducible rfl
        rotate_left
        · simp only [Act.put, List.setIfInBounds_toArray, List.set_cons_zero, List.set_cons_succ]
          rfl
        refine pure_ (i := 21) (N := some 73) (v := ?_) (a' := ?_) #[true, false, true, false, true, false, true, false, true, false, true, false, true, false, true, false, true, false, true, false, false, true, false, false, false, false, false] rfl rfl (by kernel_rfl) (fun _ _ _ h => h) (Or.inl ⟨by rfl, ?_⟩) ?_ ?_
        rotate_left
        · intro w'
          go_simp
          with_reducible rfl
        rotate_left
        · simp only [Act.put, List.setIfInBounds_toArray, List.set_cons_zero, List.set_cons_succ]
          rfl
        refine take_ (i := 1) (N := some 53) (v := ?_) (a' := ?_) #[true, true, true, false, true, false, true, false, true, false, true, false, true, false, true, false, true, false, true, false, false, true, false, false, false, false, false] rfl rfl (by kernel_rfl) (fun _ _ _ h => h) (Or.inl ⟨by rfl, ?_⟩) hHeld ?_ ?_
        rotate_left
        · rintro w' ⟨s0, s1, s2, s3, s4, s5, s6, s7, s8, s9, s10⟩
          go_simp
          with_reducible rfl
        rotate_left
        · simp only [Act.put, List.setIfInBounds_toArray, List.set_cons_zero, List.set_cons_succ]
          rfl
        refine take_ (i := 3) (N := some 55) (v := ?_) (a' := ?_) #[true, true, true, true, true, false, true, false, true, false, true, false, true, false, true, false, true, false, true, false, false, true, false, false, false, false, false] rfl rfl (by kernel_rfl) (fun _ _ _ h => h) (Or.inl ⟨by rfl, ?_⟩) hHeld ?_ ?_
        rotate_left
        · rintro w' ⟨s0, s1, s2, s3, s4, s5, s6, s7, s8, s9, s10⟩
          go_simp
          with_reducible rfl
        rotate_left
        · simp only [Act.put, List.setIfInBounds_toArray, List.set_cons_zero, List.set_cons_succ]
          rfl
        refine take_ (i := 5) (N := some 57) (v := ?_) (a' := ?_) #[true, true, true, true, true, true, true, false, true, false, true, false, true, false, true, false, true, false, true, false, false, true, false, false, false, false, false] rfl rfl (by kernel_rfl) (fun _ _ _ h => h) (Or.inl ⟨by rfl, ?_⟩) hHeld ?_ ?_
        rotate_left
        · rintro w' ⟨s0, s1, s2, s3, s4, s5, s6, s7, s8, s9, s10⟩
          go_simp
          with_reducible rfl
        rotate_left
        · simp only [Act.put, List.setIfInBounds_toArray, List.set_cons_zero, List.set_cons_succ]
          rfl
        refine take_ (i := 7) (N := some 59) (v := ?_) (a' := ?_) #[true, true, true, true, true, true, true, true, true, false, true, false, true, false, true, false, true, false, true, false, false, true, false, false, false, false, false] rfl rfl (by kernel_rfl) (fun _ _ _ h => h) (Or.inl ⟨by rfl, ?_⟩) hHeld ?_ ?_
        rotate_left
        · rintro w' ⟨s0, s1, s2, s3, s4, s5, s6, s7, s8, s9, s10⟩
          go_simp
          with_reducible rfl
        rotate_left
        · simp only [Act.put, List.setIfInBounds_toArray, List.set_cons_zero, List.set_cons_succ]
          rfl
        refine take_ (i := 9) (N := some 61) (v := ?_) (a' := ?_) #[true, true, true, true, true, true, true, true, true, true, true, false, true, false, true, false, true, false, true, false, false, true, false, false, false, false, false] rfl rfl (by kernel_rfl) (fun _ _ _ h => h) (Or.inl ⟨by rfl, ?_⟩) hHeld ?_ ?_
        rotate_left
        · rintro w' ⟨s0, s1, s2, s3, s4, s5, s6, s7, s8, s9, s10⟩
          go_simp
          with_reducible rfl
        rotate_left
        · simp only [Act.put, List.setIfInBounds_toArray, List.set_cons_zero, List.set_cons_succ]
          rfl
        refine take_ (i := 11) (N := some 63) (v := ?_) (a' := ?_) #[true, true, true, true, true, true, true, true, true, true, true, true, true, false, true, false, true, false, true, false, false, true, false, false, false, false, false] rfl rfl (by kernel_rfl) (fun _ _ _ h => h) (Or.inl ⟨by rfl, ?_⟩) hHeld ?_ ?_
        rotate_left
        · rintro w' ⟨s0, s1, s2, s3, s4, s5, s6, s7, s8, s9, s10⟩
          go_simp
          with_reducible rfl
        rotate_left
        · simp only [Act.put, List.setIfInBounds_toArray, List.set_cons_zero, List.set_cons_succ]
          rfl
        refine take_ (i := 13) (N := some 65) (v := ?_) (a' := ?_) #[true, true, true, true, true, true, true, true, true, true, true, true, true, true, true, false, true, false, true, false, false, true, false, false, false, false, false] rfl rfl (by kernel_rfl) (fun _ _ _ h => h) (Or.inl ⟨by rfl, ?_⟩) hHeld ?_ ?_
        rotate_left
        · rintro w' ⟨s0, s1, s2, s3, s4, s5, s6, s7, s8, s9, s10⟩
          go_simp
          with_reducible rfl
        rotate_left
        · simp only [Act.put, List.setIfInBounds_toArray, List.set_cons_zero, List.set_cons_succ]
          rfl
        refine take_ (i := 15) (N := some 67) (v := ?_) (a' := ?_) #[true, true, true, true, true, true, true, true, true, true, true, true, true, true, true, true, true, false, true, false, false, true, false, false, false, false, false] rfl rfl (by kernel_rfl) (fun _ _ _ h => h) (Or.inl ⟨by rfl, ?_⟩) hHeld ?_ ?_
        rotate_left
        · rintro w' ⟨s0, s1, s2, s3, s4, s5, s6, s7, s8, s9, s10⟩
          go_simp
          with_reducible rfl
        rotate_left
        · simp only [Act.put, List.setIfInBounds_toArray, List.set_cons_zero, List.set_cons_succ]
          rfl
        refine take_ (i := 17) (N := some 69) (v := ?_) (a' := ?_) #[true, true, true, true, true, true, true, true, true, true, true, true, true, true, true, true, true, true, true, false, false, true, false, false, false, false, false] rfl rfl (by kernel_rfl) (fun _ _ _ h => h) (Or.inl ⟨by rfl, ?_⟩) hHeld ?_ ?_
        rotate_left
        · rintro w' ⟨s0, s1, s2, s3, s4, s5, s6, s7, s8, s9, s10⟩
          go_simp
          with_reducible rfl
        rotate_left
        · simp only [Act.put, List.setIfInBounds_toArray, List.set_cons_zero, List.set_cons_succ]
          rfl
        refine take_ (i := 19) (N := some 71) (v := ?_) (a' := ?_) #[true, true, true, true, true, true, true, true, true, true, true, true, true, true, true, true, true, true, true, true, false, true, false, false, false, false, false] rfl rfl (by kernel_rfl) (fun _ _ _ h => h) (Or.inl ⟨by rfl, ?_⟩) hHeld ?_ ?_
        rotate_left
        · rintro w' ⟨s0, s1, s2, s3, s4, s5, s6, s7, s8, s9, s10⟩
          go_simp
          with_reducible rfl
        rotate_left
        · simp only [Act.put, List.setIfInBounds_toArray, List.set_cons_zero, List.set_cons_succ]
          rfl
        refine take_ (i := 22) (N := some 74) (v := ?_) (a' := ?_) #[true, true, true, true, true, true, true, true, true, true, true, true, true, true, true, true, true, true, true, true, false, true, true, false, false, false, false] rfl rfl (by kernel_rfl) (fun _ _ _ h => h) (Or.inl ⟨by rfl, ?_⟩) hHeld ?_ ?_
        rotate_left
        · rintro w' ⟨s0, s1, s2, s3, s4, s5, s6, s7, s8, s9, s10⟩
          go_simp
          with_reducible rfl
        rotate_left
        · simp only [Act.put, List.setIfInBounds_toArray, List.set_cons_zero, List.set_cons_succ]
          rfl
        refine two_ (i := 20) (j := 25) (Ni := some 72) (Nj := some 6) #[true, true, true, true, true, true, true, true, true, true, true, true, true, true, true, true, true, true, true, true, true, true, true, false, false, false, false] #[true, true, true, true, true, true, true, true, true, true, true, true, true, true, true, true, true, true, true, true, false, true, true, false, false, true, false] rfl rfl rfl rfl (by kernel_rfl) (by decide) (by decide) (fun K hK => ?_) (fun K hK => ?_)
        · skip
          refine Kd.R_lit_step (Kd.int .u64) (w0 := wd) wd.heap.size 27 ?hg (N := 72) ?hd (xs := ([] : List Int)) (inner := []) (ok := fun _ => True) (okp := fun _ => True) ?hr ?hp (fun _ hk => hk) trivial (Below.refl _ _) (Nat.le_refl _) (by simp) ?_
          case hd => rfl
          case hg => rfl
          case hr => first | (go_simp; done) | (go_simp; rfl)
          case hp => exact Reps.none _ _
          intro y0 w1 ho1 hb1 hg1 hn1
          clear hg1 hn1
          have HO1 := Lib.hid (Kd.R_lower ho1 HTd.out.2.1.size)
          have HV1 := Lib.hid (Kd.R_elder' HVd.out (Kd.R_base ho1) hb1)
          have HT1 := Lib.hid (HTd.out.below hb1)
          have HX1 := Lib.hid (blk_below HXd.out hb1)
          clear ho1 hb1
          refine hK.out _ _ ⟨blk_cell HX1.out 0, blk_cell HX1.out 1, blk_cell HX1.out 2, blk_cell HX1.out 3, blk_cell HX1.out 4, blk_cell HX1.out 5, blk_cell HX1.out 6, blk_cell HX1.out 7, blk_cell HX1.out 8, blk_cell HX1.out 9, blk_cell HX1.out 12⟩ (fun hHeld => ?_)
          clear hK K
          refine norm_ (a' := ?_) ?_ ?_
          rotate_left
          · show Act.put _ (some 72) _ = _
            simp only [Act.put, List.setIfInBounds_toArray, List.set_cons_zero, List.set_cons_succ]
            rfl
          refine two_ (i := 23) (j := 25) (Ni := some 75) (Nj := some 6) #[true, true, true, true, true, true, true, true, true, true, true, true, true, true, true, true, true, true, true, true, true, true, true, true, false, false, false] #[true, true, true, true, true, true, true, true, true, true, true, true, true, true, true, true, true, true, true, true, true, true, true, false, false, true, false] rfl rfl rfl rfl (by kernel_rfl) (by decide) (by decide) (fun K hK => ?_) (fun K hK => ?_)
          · skip
            refine Kd.R_append_rows_step (Kd.int .u64) (w0 := w) w.heap.size (by rfl) (.tmp 72) (.tmp 74) 52 27 (.int .u64 0) 8 rfl Tryz.underlying52 info27 rfl (by decide) (by omega) y0 [] x.f12 _ _ _ (fun _ => True) (fun _ => False) rfl rfl ?aO ?aR (fun _ _ h => h) (fun _ h => h.elim) (fun _ _ => trivial) ?aB ?aS ?aL ?_
            case aO => exact HO1.out
            case aR => exact Kd.C_below HG12.out HT1.out.2.1
            case aB => exact HT1.out.2.1
            case aS => exact HT1.out.2.1.size
            case aL => simpa using hx.2.2
            intro y12 w2 hR2 hB2 hG2 hat2
            have hR3 : (Kd.int .u64).R 27 w2 w.heap.size (fun _ => True) y12 x.f12 := hR2
            clear hR2
            obtain ⟨Am, cm, rfl⟩ := Kd.R_slice hR3
            have HO2 := Lib.hid hR3
            have HV2 := Lib.hid (Kd.R_after HV1.out hG2 hat2)
            have HT2 := Lib.hid (HT1.out.grown HO1.out (by decide) (by decide) hG2 hB2)
            have HX2 := Lib.hid (blk_grown HX1.out hG2 (Kd.R_ne HO1.out HX1.out (by decide)))
            clear hR3 hB2 hat2
            clear hG2
            refine hK.out _ _ ⟨blk_cell HX2.out 0, blk_cell HX2.out 1, blk_cell HX2.out 2, blk_cell HX2.out 3, blk_cell HX2.out 4, blk_cell HX2.out 5, blk_cell HX2.out 6, blk_cell HX2.out 7, blk_cell HX2.out 8, blk_cell HX2.out 9, blk_cell HX2.out 12⟩ (fun hHeld => ?_)
            clear hK K
            refine norm_ (a' := ?_) ?_ ?_
            rotate_left
            · show Act.put _ (some 75) _ = _
              simp only [Act.put, List.setIfInBounds_toArray, List.set_cons_zero, List.set_cons_succ]
              rfl
            refine pure_ (i := 24) (N := some 76) (v := ?_) (a' := ?_) #[true, true, true, true, true, true, true, true, true, true, true, true, true, true, true, true, true, true, true, true, true, true, true, true, true, false, false] rfl rfl (by kernel_rfl) (fun _ _ _ h => h) (Or.inl ⟨by rfl, ?_⟩) ?_ ?_
            rotate_left
            · intro w'
              go_simp
              with_reducible rfl
            rotate_left
            · simp only [Act.put, List.setIfInBounds_toArray, List.set_cons_zero, List.set_cons_succ]
              rfl
            refine one_ (i := 25) (N := some 6) #[true, true, true, true, true, true, true, true, true, true, true, true, true, true, true, true, true, true, true, true, true, true, true, true, true, true, false] rfl rfl (by kernel_rfl) (by decide) (fun K hK => ?_)
            refine value_ (w1 := ?_) (v := ?_) (by rfl) rfl ?_ ?_
            rotate_left 2
            · go_simp
              constructor
              · rfl
              · rfl
            refine hK.out _ _ ⟨blk_cell (blk_alloc HX2.out _) 0, blk_cell (blk_alloc HX2.out _) 1, blk_cell (blk_alloc HX2.out _) 2, blk_cell (blk_alloc HX2.out _) 3, blk_cell (blk_alloc HX2.out _) 4, blk_cell (blk_alloc HX2.out _) 5, blk_cell (blk_alloc HX2.out _) 6, blk_cell (blk_alloc HX2.out _) 7, blk_cell (blk_alloc HX2.out _) 8, blk_cell (blk_alloc HX2.out _) 9, blk_cell (blk_alloc HX2.out _) 12⟩ (fun hHeld => ?_)
            clear hK K
            refine norm_ (a' := ?_) ?_ ?_
            rotate_left
            · show Act.put _ (some 6) _ = _
              simp only [Act.put, List.setIfInBounds_toArray, List.set_cons_zero, List.set_cons_succ]
              rfl
            refine last_ (i := 26) (N := none) #[true, true, true, true, true, true, true, true, true, true, true, true, true, true, true, true, true, true, true, true, true, true, true, true, true, true, true] rfl rfl (by kernel_rfl) (by decide) (fun K hK => ?_)
            refine skip_ (w1 := ?_) (by rfl) rfl ?_ ?_
            rotate_left
            · go_simp
              rfl
            refine hK.out _ _ ?_
            clear hK K
            refine done_ (by kernel_rfl) ?_
            go_wp2_with fail
            go_meet
            case rel => exact ⟨_, _, rfl, Lib.hid (YQ.new _ HT2.out HX2.out HV2.out HO2.out)⟩
          · skip
            refine value_ (w1 := ?_) (v := ?_) (by rfl) rfl ?_ ?_
            rotate_left 2
            · go_simp
              constructor
              · rfl
              · rfl
            have hgy := HT1.out.2.1.size
            have HYa := Lib.hid (blk_new w1 (.cells #[.string ⟨#[]⟩, .int .u64 0, .int .u64 0, .int .u64 0, .int .u64 0, .int .u64 0, .int .u64 0, .int .u64 0, .int .u64 0, .string ⟨#[]⟩, .slice none 0 0, .slice none 0 0, .slice none 0 0] 80))
            have HVa := Lib.hid (Kd.R_alloc (Kd.R_mono (ok' := fun k => k ≠ w1.heap.size ∧ some k ≠ y0.ownBlock) (Kd.R_bound HV1.out) (fun k hk => ⟨Nat.ne_of_lt hk.2.2.1, hk.1.2⟩)) (.cells #[.string ⟨#[]⟩, .int .u64 0, .int .u64 0, .int .u64 0, .int .u64 0, .int .u64 0, .int .u64 0, .int .u64 0, .int .u64 0, .string ⟨#[]⟩, .slice none 0 0, .slice none 0 0, .slice none 0 0] 80))
            have HOa := Lib.hid (Kd.R_alloc HO1.out (.cells #[.string ⟨#[]⟩, .int .u64 0, .int .u64 0, .int .u64 0, .int .u64 0, .int .u64 0, .int .u64 0, .int .u64 0, .int .u64 0, .string ⟨#[]⟩, .slice none 0 0, .slice none 0 0, .slice none 0 0] 80))
            have HTa := Lib.hid (HT1.out.below (below_alloc (Below.refl _ _) (.cells #[.string ⟨#[]⟩, .int .u64 0, .int .u64 0, .int .u64 0, .int .u64 0, .int .u64 0, .int .u64 0, .int .u64 0, .int .u64 0, .string ⟨#[]⟩, .slice none 0 0, .slice none 0 0, .slice none 0 0] 80)))
            have HXa := Lib.hid (blk_alloc HX1.out (.cells #[.string ⟨#[]⟩, .int .u64 0, .int .u64 0, .int .u64 0, .int .u64 0, .int .u64 0, .int .u64 0, .int .u64 0, .int .u64 0, .string ⟨#[]⟩, .slice none 0 0, .slice none 0 0, .slice none 0 0] 80))
            clear HV1 HO1 HT1 HX1
            have HY1 := HYa
            have HV1 := HVa
            have HO1 := HOa
            have HT1 := HTa
            have HX1 := HXa
            clear HYa HVa HOa HTa HXa
            refine hK.out _ _ ⟨blk_cell HX1.out 0, blk_cell HX1.out 1, blk_cell HX1.out 2, blk_cell HX1.out 3, blk_cell HX1.out 4, blk_cell HX1.out 5, blk_cell HX1.out 6, blk_cell HX1.out 7, blk_cell HX1.out 8, blk_cell HX1.out 9, blk_cell HX1.out 12⟩ (fun hHeld => ?_)
            clear hK K
            refine norm_ (a' := ?_) ?_ ?_
            rotate_left
            · show Act.put _ (some 6) _ = _
              simp only [Act.put, List.setIfInBounds_toArray, List.set_cons_zero, List.set_cons_succ]
              rfl
            generalize w1.heap.size = gy at HY1 HV1 hgy ⊢
            generalize w1.alloc (.cells #[.string ⟨#[]⟩, .int .u64 0, .int .u64 0, .int .u64 0, .int .u64 0, .int .u64 0, .int .u64 0, .int .u64 0, .int .u64 0, .string ⟨#[]⟩, .slice none 0 0, .slice none 0 0, .slice none 0 0] 80) = w1a at HY1 HV1 HO1 HT1 HX1 hHeld ⊢
            refine one_ (i := 23) (N := some 75) #[true, true, true, true, true, true, true, true, true, true, true, true, true, true, true, true, true, true, true, true, true, true, true, true, false, true, false] rfl rfl (by kernel_rfl) (by decide) (fun K hK => ?_)
            refine Kd.R_append_rows_step (Kd.int .u64) (w0 := w) w.heap.size (by rfl) (.tmp 72) (.tmp 74) 52 27 (.int .u64 0) 8 rfl Tryz.underlying52 info27 rfl (by decide) (by omega) y0 [] x.f12 _ _ _ (fun _ => True) (fun _ => False) rfl rfl ?aO ?aR (fun _ _ h => h) (fun _ h => h.elim) (fun _ _ => trivial) ?aB ?aS ?aL ?_
            case aO => exact HO1.out
            case aR => exact Kd.C_below HG12.out HT1.out.2.1
            case aB => exact HT1.out.2.1
            case aS => exact HT1.out.2.1.size
            case aL => simpa using hx.2.2
            intro y12 w2 hR2 hB2 hG2 hat2
            have hR3 : (Kd.int .u64).R 27 w2 w.heap.size (fun _ => True) y12 x.f12 := hR2
            clear hR2
            obtain ⟨Am, cm, rfl⟩ := Kd.R_slice hR3
            have HO2 := Lib.hid hR3
            have HV2 := Lib.hid (Kd.R_after HV1.out hG2 hat2)
            have HT2 := Lib.hid (HT1.out.grown HO1.out (by decide) (by decide) hG2 hB2)
            have HX2 := Lib.hid (blk_grown HX1.out hG2 (Kd.R_ne HO1.out HX1.out (by decide)))
            have HY2 := Lib.hid (blk_grown HY1.out hG2 (Kd.R_ne HO1.out HY1.out (by decide)))
            clear hR3 hB2 hat2
            clear hG2
            refine hK.out _ _ ⟨blk_cell HX2.out 0, blk_cell HX2.out 1, blk_cell HX2.out 2, blk_cell HX2.out 3, blk_cell HX2.out 4, blk_cell HX2.out 5, blk_cell HX2.out 6, blk_cell HX2.out 7, blk_cell HX2.out 8, blk_cell HX2.out 9, blk_cell HX2.out 12⟩ (fun hHeld => ?_)
            clear hK K
            refine norm_ (a' := ?_) ?_ ?_
            rotate_left
            · show Act.put _ (some 75) _ = _
              simp only [Act.put, List.setIfInBounds_toArray, List.set_cons_zero, List.set_cons_succ]
              rfl
            refine pure_ (i := 24) (N := some 76) (v := ?_) (a' := ?_) #[true, true, true, true, true, true, true, true, true, true, true, true, true, true, true, true, true, true, true, true, true, true, true, true, true, true, false] rfl rfl (by kernel_rfl) (fun _ _ _ h => h) (Or.inl ⟨by rfl, ?_⟩) ?_ ?_
            rotate_left
            · intro w'
              go_simp
              with_reducible rfl
            rotate_left
            · simp only [Act.put, List.setIfInBounds_toArray, List.set_cons_zero, List.set_cons_succ]
              rfl
            refine last_ (i := 26) (N := none) #[true, true, true, true, true, true, true, true, true, true, true, true, true, true, true, true, true, true, true, true, true, true, true, true, true, true, true] rfl rfl (by kernel_rfl) (by decide) (fun K hK => ?_)
            have h0 := blk_cell HY2.out 0
            have f0 := blk_frozen HY2.out 0
            have h1 := blk_cell HY2.out 1
            have f1 := blk_frozen HY2.out 1
            have h2 := blk_cell HY2.out 2
            have f2 := blk_frozen HY2.out 2
            have h3 := blk_cell HY2.out 3
            have f3 := blk_frozen HY2.out 3
            have h4 := blk_cell HY2.out 4
            have f4 := blk_frozen HY2.out 4
            have h5 := blk_cell HY2.out 5
            have f5 := blk_frozen HY2.out 5
            have h6 := blk_cell HY2.out 6
            have f6 := blk_frozen HY2.out 6
            have h7 := blk_cell HY2.out 7
            have f7 := blk_frozen HY2.out 7
            have h8 := blk_cell HY2.out 8
            have f8 := blk_frozen HY2.out 8
            have h9 := blk_cell HY2.out 9
            have f9 := blk_frozen HY2.out 9
            have h10 := blk_cell HY2.out 10
            have f10 := blk_frozen HY2.out 10
            have h11 := blk_cell HY2.out 11
            have f11 := blk_frozen HY2.out 11
            have h12 := blk_cell HY2.out 12
            have f12 := blk_frozen HY2.out 12
            simp only [List.getElem?_toArray, List.getElem?_cons_succ, List.getElem?_cons_zero] at h0 h1 h2 h3 h4 h5 h6 h7 h8 h9 h10 h11 h12
            have HQ := YQ.made (gy := gy) [.string ⟨#[]⟩, .int .u64 0, .int .u64 0, .int .u64 0, .int .u64 0, .int .u64 0, .int .u64 0, .int .u64 0, .int .u64 0, .string ⟨#[]⟩, .slice none 0 0, .slice none 0 0, .slice none 0 0] [.string x.f0, .int .u64 x.f1, .int .u64 x.f2, .int .u64 x.f3, .int .u64 x.f4, .int .u64 x.f5, .int .u64 x.f6, .int .u64 x.f7, .int .u64 x.f8, .string x.f9, .slice none 0 0, .slice none 0 0, .slice Am x.f12.length cm] HT2.out HX2.out HY2.out hgy HV2.out HO2.out rfl
            simp only [putAll, Nat.reduceAdd] at HQ
            have HQ := Lib.hid HQ
            refine skip_ (w1 := ?_) (by rfl) rfl ?_ ?_
            rotate_left
            · go_simp
              rfl
            refine hK.out _ _ ?_
            clear hK K
            refine done_ (by kernel_rfl) ?_
            clear h0 f0 h1 f1 h2 f2 h3 f3 h4 f4 h5 f5 h6 f6 h7 f7 h8 f8 h9 f9 h10 f10 h11 f11 h12 f12
            go_wp2_with fail
            go_meet
            case rel => exact ⟨gy, _, rfl, HQ⟩
        · skip
          refine value_ (w1 := ?_) (v := ?_) (by rfl) rfl ?_ ?_
          rotate_left 2
          · go_simp
            constructor
            · rfl
            · rfl
          have hgy := HTd.out.2.1.size
          have HYa := Lib.hid (blk_new wd (.cells #[.string ⟨#[]⟩, .int .u64 0, .int .u64 0, .int .u64 0, .int .u64 0, .int .u64 0, .int .u64 0, .int .u64 0, .int .u64 0, .string ⟨#[]⟩, .slice none 0 0, .slice none 0 0, .slice none 0 0] 80))
          have HVa := Lib.hid (Kd.R_alloc (Kd.R_mono (ok' := fun k => k ≠ wd.heap.size) (Kd.R_bound HVd.out) (fun k hk => Nat.ne_of_lt hk.2.2.1)) (.cells #[.string ⟨#[]⟩, .int .u64 0, .int .u64 0, .int .u64 0, .int .u64 0, .int .u64 0, .int .u64 0, .int .u64 0, .int .u64 0, .string ⟨#[]⟩, .slice none 0 0, .slice none 0 0, .slice none 0 0] 80))
          have HTa := Lib.hid (HTd.out.below (below_alloc (Below.refl _ _) (.cells #[.string ⟨#[]⟩, .int .u64 0, .int .u64 0, .int .u64 0, .int .u64 0, .int .u64 0, .int .u64 0, .int .u64 0, .int .u64 0, .string ⟨#[]⟩, .slice none 0 0, .slice none 0 0, .slice none 0 0] 80)))
          have HXa := Lib.hid (blk_alloc HXd.out (.cells #[.string ⟨#[]⟩, .int .u64 0, .int .u64 0, .int .u64 0, .int .u64 0, .int .u64 0, .int .u64 0, .int .u64 0, .int .u64 0, .string ⟨#[]⟩, .slice none 0 0, .slice none 0 0, .slice none 0 0] 80))
          clear HVd HTd HXd
          have HYd := HYa
          have HVd := HVa
          have HTd := HTa
          have HXd := HXa
          clear HYa HVa HTa HXa
          refine hK.out _ _ ⟨blk_cell HXd.out 0, blk_cell HXd.out 1, blk_cell HXd.out 2, blk_cell HXd.out 3, blk_cell HXd.out 4, blk_cell HXd.out 5, blk_cell HXd.out 6, blk_cell HXd.out 7, blk_cell HXd.out 8, blk_cell HXd.out 9, blk_cell HXd.out 12⟩ (fun hHeld => ?_)
          clear hK K
          refine norm_ (a' := ?_) ?_ ?_
          rotate_left
          · show Act.put _ (some 6) _ = _
            simp only [Act.put, List.setIfInBounds_toArray, List.set_cons_zero, List.set_cons_succ]
            rfl
          generalize wd.heap.size = gy at HYd HVd hgy ⊢
          generalize wd.alloc (.cells #[.string ⟨#[]⟩, .int .u64 0, .int .u64 0, .int .u64 0, .int .u64 0, .int .u64 0, .int .u64 0, .int .u64 0, .int .u64 0, .string ⟨#[]⟩, .slice none 0 0, .slice none 0 0, .slice none 0 0] 80) = wda at HYd HVd HTd HXd hHeld ⊢
          refine one_ (i := 20) (N := some 72) #[true, true, true, true, true, true, true, true, true, true, true, true, true, true, true, true, true, true, true, true, true, true, true, false, false, true, false] rfl rfl (by kernel_rfl) (by decide) (fun K hK => ?_)
          refine Kd.R_lit_step (Kd.int .u64) (w0 := wda) wda.heap.size 27 ?hg (N := 72) ?hd (xs := ([] : List Int)) (inner := []) (ok := fun _ => True) (okp := fun _ => True) ?hr ?hp (fun _ hk => hk) trivial (Below.refl _ _) (Nat.le_refl _) (by simp) ?_
          case hd => rfl
          case hg => rfl
          case hr => first | (go_simp; done) | (go_simp; rfl)
          case hp => exact Reps.none _ _
          intro y0 w1 ho1 hb1 hg1 hn1
          clear hg1 hn1
          have HO1 := Lib.hid (Kd.R_lower ho1 HTd.out.2.1.size)
          have HV1 := Lib.hid (Kd.R_elder' HVd.out (Kd.R_base ho1) hb1)
          have HT1 := Lib.hid (HTd.out.below hb1)
          have HX1 := Lib.hid (blk_below HXd.out hb1)
          have HY1 := Lib.hid (blk_below HYd.out hb1)
          clear ho1 hb1
          refine hK.out _ _ ⟨blk_cell HX1.out 0, blk_cell HX1.out 1, blk_cell HX1.out 2, blk_cell HX1.out 3, blk_cell HX1.out 4, blk_cell HX1.out 5, blk_cell HX1.out 6, blk_cell HX1.out 7, blk_cell HX1.out 8, blk_cell HX1.out 9, blk_cell HX1.out 12⟩ (fun hHeld => ?_)
          clear hK K
          refine norm_ (a' := ?_) ?_ ?_
          rotate_left
          · show Act.put _ (some 72) _ = _
            simp only [Act.put, List.setIfInBounds_toArray, List.set_cons_zero, List.set_cons_succ]
            rfl
          refine one_ (i := 23) (N := some 75) #[true, true, true, true, true, true, true, true, true, true, true, true, true, true, true, true, true, true, true, true, true, true, true, true, false, true, false] rfl rfl (by kernel_rfl) (by decide) (fun K hK => ?_)
          refine Kd.R_append_rows_step (Kd.int .u64) (w0 := w) w.heap.size (by rfl) (.tmp 72) (.tmp 74) 52 27 (.int .u64 0) 8 rfl Tryz.underlying52 info27 rfl (by decide) (by omega) y0 [] x.f12 _ _ _ (fun _ => True) (fun _ => False) rfl rfl ?aO ?aR (fun _ _ h => h) (fun _ h => h.elim) (fun _ _ => trivial) ?aB ?aS ?aL ?_
          case aO => exact HO1.out
          case aR => exact Kd.C_below HG12.out HT1.out.2.1
          case aB => exact HT1.out.2.1
          case aS => exact HT1.out.2.1.size
          case aL => simpa using hx.2.2
          intro y12 w2 hR2 hB2 hG2 hat2
          have hR3 : (Kd.int .u64).R 27 w2 w.heap.size (fun _ => True) y12 x.f12 := hR2
          clear hR2
          obtain ⟨Am, cm, rfl⟩ := Kd.R_slice hR3
          have HO2 := Lib.hid hR3
          have HV2 := Lib.hid (Kd.R_after HV1.out hG2 hat2)
          have HT2 := Lib.hid (HT1.out.grown HO1.out (by decide) (by decide) hG2 hB2)
          have HX2 := Lib.hid (blk_grown HX1.out hG2 (Kd.R_ne HO1.out HX1.out (by decide)))
          have HY2 := Lib.hid (blk_grown HY1.out hG2 (Kd.R_ne HO1.out HY1.out (by decide)))
          clear hR3 hB2 hat2
          clear hG2
          refine hK.out _ _ ⟨blk_cell HX2.out 0, blk_cell HX2.out 1, blk_cell HX2.out 2, blk_cell HX2.out 3, blk_cell HX2.out 4, blk_cell HX2.out 5, blk_cell HX2.out 6, blk_cell HX2.out 7, blk_cell HX2.out 8, blk_cell HX2.out 9, blk_cell HX2.out 12⟩ (fun hHeld => ?_)
          clear hK K
          refine norm_ (a' := ?_) ?_ ?_
          rotate_left
          · show Act.put _ (some 75) _ = _
            simp only [Act.put, List.setIfInBounds_toArray, List.set_cons_zero, List.set_cons_succ]
            rfl
          refine pure_ (i := 24) (N := some 76) (v := ?_) (a' := ?_) #[true, true, true, true, true, true, true, true, true, true, true, true, true, true, true, true, true, true, true, true, true, true, true, true, true, true, false] rfl rfl (by kernel_rfl) (fun _ _ _ h => h) (Or.inl ⟨by rfl, ?_⟩) ?_ ?_
          rotate_left
          · intro w'
            go_simp
            with_reducible rfl
          rotate_left
          · simp only [Act.put, List.setIfInBounds_toArray, List.set_cons_zero, List.set_cons_succ]
            rfl
          refine last_ (i := 26) (N := none) #[true, true, true, true, true, true, true, true, true, true, true, true, true, true, true, true, true, true, true, true, true, true, true, true, true, true, true] rfl rfl (by kernel_rfl) (by decide) (fun K hK => ?_)
          have h0 := blk_cell HY2.out 0
          have f0 := blk_frozen HY2.out 0
          have h1 := blk_cell HY2.out 1
          have f1 := blk_frozen HY2.out 1
          have h2 := blk_cell HY2.out 2
          have f2 := blk_frozen HY2.out 2
          have h3 := blk_cell HY2.out 3
          have f3 := blk_frozen HY2.out 3
          have h4 := blk_cell HY2.out 4
          have f4 := blk_frozen HY2.out 4
          have h5 := blk_cell HY2.out 5
          have f5 := blk_frozen HY2.out 5
          have h6 := blk_cell HY2.out 6
          have f6 := blk_frozen HY2.out 6
          have h7 := blk_cell HY2.out 7
          have f7 := blk_frozen HY2.out 7
          have h8 := blk_cell HY2.out 8
          have f8 := blk_frozen HY2.out 8
          have h9 := blk_cell HY2.out 9
          have f9 := blk_frozen HY2.out 9
          have h10 := blk_cell HY2.out 10
          have f10 := blk_frozen HY2.out 10
          have h11 := blk_cell HY2.out 11
          have f11 := blk_frozen HY2.out 11
          have h12 := blk_cell HY2.out 12
          have f12 := blk_frozen HY2.out 12
          simp only [List.getElem?_toArray, List.getElem?_cons_succ, List.getElem?_cons_zero] at h0 h1 h2 h3 h4 h5 h6 h7 h8 h9 h10 h11 h12
          have HQ := YQ.made (gy := gy) [.string ⟨#[]⟩, .int .u64 0, .int .u64 0, .int .u64 0, .int .u64 0, .int .u64 0, .int .u64 0, .int .u64 0, .int .u64 0, .string ⟨#[]⟩, .slice none 0 0, .slice none 0 0, .slice none 0 0] [.string x.f0, .int .u64 x.f1, .int .u64 x.f2, .int .u64 x.f3, .int .u64 x.f4, .int .u64 x.f5, .int .u64 x.f6, .int .u64 x.f7, .int .u64 x.f8, .string x.f9, .slice none 0 0, .slice none 0 0, .slice Am x.f12.length cm] HT2.out HX2.out HY2.out hgy HV2.out HO2.out rfl
          simp only [putAll, Nat.reduceAdd] at HQ
          have HQ := Lib.hid HQ
          refine skip_ (w1 := ?_) (by rfl) rfl ?_ ?_
          rotate_left
          · go_simp
            rfl
          refine hK.out _ _ ?_
          clear hK K
          refine done_ (by kernel_rfl) ?_
          clear h0 f0 h1 f1 h2 f2 h3 f3 h4 f4 h5 f5 h6 f6 h7 f7 h8 f8 h9 f9 h10 f10 h11 f11 h12 f12
          go_wp2_with fail
          go_meet
          case rel => exact ⟨gy, _, rfl, HQ⟩
      case rest =>
        obtain ⟨gy, y12, rfl, HY⟩ := hcut
        obtain ⟨Am, cm, rfl⟩ := Kd.R_slice HY.out.2.2.2.2.2.2.2
        go_wp2
        go_loopw [7] (fun j wr => ∃ (i : Nat) (y10 : Value), i ≤ x.f10.length ∧ j = .int .i64 i ∧ Hid (YQ w wr m gx gy #[.bool big, .bool wide, .int .u8 abi, .int .u8 ver, .string ⟨#[]⟩, .int .u64 ty, .int .u64 mc, .int .u64 en, .int .u64 fg, .int .u64 nm, .slice Av L0.length cv, .slice none 0 0] #[.bool wide, .bool big, .int .u8 abi, .int .u8 ver, .int .u64 ty, .int .u64 mc, .int .u64 en, .int .u64 fg, .int .u64 nm, .slice (some ad) L.length c9, .slice A10 D.length c10] #[.bool false, .bool false, .int .u8 0, .int .u8 0, .string ⟨#[]⟩, .int .u64 0, .int .u64 0, .int .u64 0, .int .u64 0, .int .u64 0, .slice none 0 0, .slice none 0 0] #[.string x.f0, .int .u64 x.f1, .int .u64 x.f2, .int .u64 x.f3, .int .u64 x.f4, .int .u64 x.f5, .int .u64 x.f6, .int .u64 x.f7, .int .u64 x.f8, .string x.f9, .slice B10 x.f10.length d10, .slice B11 x.f11.length d11, .slice B12 x.f12.length d12] #[.string x.f0, .int .u64 x.f1, .int .u64 x.f2, .int .u64 x.f3, .int .u64 x.f4, .int .u64 x.f5, .int .u64 x.f6, .int .u64 x.f7, .int .u64 x.f8, .string x.f9, y10, .slice none 0 0, .slice Am x.f12.length cm] (.slice Av L0.length cv) L0 (y10) (.slice none 0 0) (.slice Am x.f12.length cm) ((x.f10.take i).map symT) [] x.f12)) (fun j _ => x.f10.length - (intOf j).toNat)
        case atStart => exact ⟨0, _, Nat.zero_le _, rfl, Lib.hid (by simpa using HY.out)⟩
        case round =>
          obtain ⟨i, y10, hi1, rfl, HZ⟩ := hrel
          clear HY
          have g10 := blk_cell HZ.out.2.1 10
          simp only [List.getElem?_toArray, List.getElem?_cons_succ, List.getElem?_cons_zero] at g10
          by_cases hli : i < x.f10.length
          · obtain ⟨ae, hA2, o0, o1, o2, o3, o4, o5, o6⟩ := at_T56 HG10.out (i : Int) (by omega) (by omega)
            subst hA2
            rw [Int.toNat_natCast] at o0 o1 o2 o3 o4 o5 o6
            obtain ⟨z, hze⟩ : ∃ z, z = rd_T56 x.f10 (i : Int) := ⟨_, rfl⟩
            have HZX := Lib.hid (show z = x.f10[i] by rw [hze]; unfold rd_T56; rw [Int.toNat_natCast]; simp [List.getD, hli])
            rw [← hze] at o0 o1 o2 o3 o4 o5 o6
            clear hze
            obtain ⟨Y0, hY0⟩ : ∃ Y0, Y0 = (x.f10.take i).map symT := ⟨_, rfl⟩
            have HYS := Lib.hid (show (x.f10.take (i + 1)).map symT = Y0 ++ [symT z] by rw [hY0, HZX.out, List.take_succ_eq_append_getElem hli, List.map_append]; rfl)
            have hYl : (Y0.length + 1) * 64 ≤ 140737488355328 := by have := hx.1; rw [hY0, List.length_map, List.length_take]; omega
            rw [← hY0] at HZ
            clear hY0
            obtain ⟨Ax, cx, rfl⟩ := Kd.R_slice HZ.out.2.2.2.2.2.1
            go_upto_region 11 with (fail)
            have HZd := Lib.hid (HZ.out.below (show Below wr.heap.size wr wr.drew from below_drew1 (Below.refl _ _)))
            clear HZ g10
            have p0 := (HZd.out.1.2.1.cell (World.block_lt_of_cell? w _ o0)).trans o0
            have p1 := (HZd.out.1.2.1.cell (World.block_lt_of_cell? w _ o1)).trans o1
            have p2 := (HZd.out.1.2.1.cell (World.block_lt_of_cell? w _ o2)).trans o2
            have p3 := (HZd.out.1.2.1.cell (World.block_lt_of_cell? w _ o3)).trans o3
            have p4 := (HZd.out.1.2.1.cell (World.block_lt_of_cell? w _ o4)).trans o4
            have p5 := (HZd.out.1.2.1.cell (World.block_lt_of_cell? w _ o5)).trans o5
            have p6 := (HZd.out.1.2.1.cell (World.block_lt_of_cell? w _ o6)).trans o6
            refine start_ (n := 11) (S := fun w' => w'.cell? ⟨gy, 10, none⟩ = some (.slice Ax Y0.length cx) ∧ w'.cell? ⟨gx, 10, none⟩ = some (.slice (some ae) x.f10.length d10) ∧ w'.cell? (ae.add (i * 7)) = some (.string z.f0) ∧ w'.cell? ⟨(ae.add (i * 7)).block, (ae.add (i * 7)).off + 1, none⟩ = some (.int .u64 z.f1) ∧ w'.cell? ⟨(ae.add (i * 7)).block, (ae.add (i * 7)).off + 2, none⟩ = some (.int .u64 z.f2) ∧ w'.cell? ⟨(ae.add (i * 7)).block, (ae.add (i * 7)).off + 3, none⟩ = some (.int .u64 z.f3) ∧ w'.cell? ⟨(ae.add (i * 7)).block, (ae.add (i * 7)).off + 4, none⟩ = some (.int .u64 z.f4) ∧ w'.cell? ⟨(ae.add (i * 7)).block, (ae.add (i * 7)).off + 5, none⟩ = some (.int .u64 z.f5) ∧ w'.cell? ⟨(ae.add (i * 7)).block, (ae.add (i * 7)).off + 6, none⟩ = some (.bool z.f6)) (ds := [10]) #[false, false, false, false, false, false, false, false, false, false, false] (by kernel_rfl) (by rfl) (by rfl) ⟨blk_cell HZd.out.2.2.1 10, blk_cell HZd.out.2.1 10, p0, p1, p2, p3, p4, p5, p6⟩ (fun hHeld => ?_)
            generalize wr.drew = wd at HZd p0 p1 p2 p3 p4 p5 p6 hHeld ⊢
            refine pure_ (i := 0) (N := some 84) (v := ?_) (a' := ?_) #[true, false, false, false, false, false, false, false, false, false, false] rfl rfl (by kernel_rfl) (fun _ _ _ h => h) (Or.inl ⟨by rfl, ?_⟩) ?_ ?_
            rotate_left
            · intro w'
              go_simp
              with_reducible rfl
            rotate_left
            · simp only [Act.put, List.setIfInBounds_toArray, List.set_cons_zero, List.set_cons_succ]
              rfl
            refine take_ (i := 1) (N := some 85) (v := ?_) (a' := ?_) #[true, true, false, false, false, false, false, false, false, false, false] rfl rfl (by kernel_rfl) (fun _ _ _ h => h) (Or.inl ⟨by rfl, ?_⟩) hHeld ?_ ?_
            rotate_left
            · rintro w' ⟨s0, s1, s2, s3, s4, s5, s6, s7, s8⟩
              go_simp
              with_reducible rfl
            rotate_left
            · simp only [Act.put, List.setIfInBounds_toArray, List.set_cons_zero, List.set_cons_succ]
              rfl
            refine pure_ (i := 2) (N := some 86) (v := ?_) (a' := ?_) #[true, true, true, false, false, false, false, false, false, false, false] rfl rfl (by kernel_rfl) (fun _ _ _ h => h) (Or.inl ⟨by rfl, ?_⟩) ?_ ?_
            rotate_left
            · intro w'
              go_simp
              with_reducible rfl
            rotate_left
            · simp only [Act.put, List.setIfInBounds_toArray, List.set_cons_zero, List.set_cons_succ]
              rfl
            refine take_ (i := 3) (N := some 87) (v := ?_) (a' := ?_) #[true, true, true, true, false, false, false, false, false, false, false] rfl rfl (by kernel_rfl) (fun _ _ _ h => h) (Or.inl ⟨by rfl, ?_⟩) hHeld ?_ ?_
            rotate_left
            · rintro w' ⟨s0, s1, s2, s3, s4, s5, s6, s7, s8⟩
              go_simp
              with_reducible rfl
            rotate_left
            · simp only [Act.put, List.setIfInBounds_toArray, List.set_cons_zero, List.set_cons_succ]
              rfl
            refine pure_ (i := 4) (N := some 88) (v := ?_) (a' := ?_) #[true, true, true, true, true, false, false, false, false, false, false] rfl rfl (by kernel_rfl) (fun _ _ _ h => h) (Or.inl ⟨by rfl, ?_⟩) ?_ ?_
            rotate_left
            · intro w'
              go_simp
              with_reducible rfl
            rotate_left
            · simp only [Act.put, List.setIfInBounds_toArray, List.set_cons_zero, List.set_cons_succ]
              rfl
            refine pure_ (i := 5) (N := some 89) (v := ?_) (a' := ?_) #[true, true, true, true, true, true, false, false, false, false, false] rfl rfl (by kernel_rfl) (fun _ _ _ h => h) (Or.inl ⟨by rfl, ?_⟩) ?_ ?_
            rotate_left
            · intro w'
              go_simp
              with_reducible rfl
            rotate_left
            · simp only [Act.put, List.setIfInBounds_toArray, List.set_cons_zero, List.set_cons_succ]
              rfl
            refine take_ (i := 6) (N := some 90) (v := ?_) (a' := ?_) #[true, true, true, true, true, true, true, false, false, false, false] rfl rfl (by kernel_rfl) (fun _ _ _ h => h) (Or.inl ⟨by rfl, ?_⟩) hHeld ?_ ?_
            rotate_left
            · rintro w' ⟨s0, s1, s2, s3, s4, s5, s6, s7, s8⟩
              go_simp
              with_reducible rfl
            rotate_left
            · simp only [Act.put, List.setIfInBounds_toArray, List.set_cons_zero, List.set_cons_succ]
              rfl
            refine one_ (i := 7) (N := some 91) #[true, true, true, true, true, true, true, true, false, false, false] rfl rfl (by kernel_rfl) (by decide) (fun K hK => ?_)
            refine value_ (w1 := ?_) (v := ?_) (by rfl) rfl ?_ ?_
            rotate_left 2
            · go_simp
              constructor
              · rfl
              · rfl
            refine hK.out _ _ ⟨blk_cell (blk_alloc HZd.out.2.2.1 _) 10, blk_cell (blk_alloc HZd.out.2.1 _) 10, ((below_alloc (Below.refl _ _) _).cell (World.block_lt_of_cell? wd _ p0)).trans p0, ((below_alloc (Below.refl _ _) _).cell (World.block_lt_of_cell? wd _ p1)).trans p1, ((below_alloc (Below.refl _ _) _).cell (World.block_lt_of_cell? wd _ p2)).trans p2, ((below_alloc (Below.refl _ _) _).cell (World.block_lt_of_cell? wd _ p3)).trans p3, ((below_alloc (Below.refl _ _) _).cell (World.block_lt_of_cell? wd _ p4)).trans p4, ((below_alloc (Below.refl _ _) _).cell (World.block_lt_of_cell? wd _ p5)).trans p5, ((below_alloc (Below.refl _ _) _).cell (World.block_lt_of_cell? wd _ p6)).trans p6⟩ (fun hHeld => ?_)
            clear hK K
            refine norm_ (a' := ?_) ?_ ?_
            rotate_left
            · show Act.put _ (some 91) _ = _
              simp only [Act.put, List.setIfInBounds_toArray, List.set_cons_zero, List.set_cons_succ]
              rfl
            refine one_ (i := 8) (N := some 92) #[true, true, true, true, true, true, true, true, true, false, false] rfl rfl (by kernel_rfl) (by decide) (fun K hK => ?_)
            refine Kd.R_append_step k81 (w0 := w) w.heap.size (by rfl) (.tmp 85) (.tmp 91) 77 81 _ 64 rfl Tryz.underlying77 info81 rfl (by decide) (by omega) (.slice Ax Y0.length cx) Y0 (⟨z.f0, z.f1, z.f2, z.f3, z.f4, z.f5, z.f6⟩ : S81) _ (fun _ => True) (fun _ => False) rfl rfl (k81_mkM _ _ _ _) (fun _ hk => hk.elim) (fun _ _ => trivial) HZd.out.2.2.2.2.2.1 HZd.out.1.2.1 HZd.out.1.2.1.size hYl ?_
            intro v1 w1 hR1 hB1 hG1 hat1
            obtain ⟨AV, cV, rfl⟩ := Kd.R_slice hR1
            simp only [List.length_append, List.length_singleton] at hR1 hat1
            have hm1 := blk_grown HZd.out.2.2.1 hG1 (Kd.R_ne HZd.out.2.2.2.2.2.1 HZd.out.2.2.1 (by decide))
            have hp1 := blk_grown HZd.out.2.1 hG1 (Kd.R_ne HZd.out.2.2.2.2.2.1 HZd.out.2.1 (by decide))
            refine hK.out _ _ ⟨blk_cell hm1 10, blk_cell hp1 10, (hB1.cell (World.block_lt_of_cell? w _ o0)).trans o0, (hB1.cell (World.block_lt_of_cell? w _ o1)).trans o1, (hB1.cell (World.block_lt_of_cell? w _ o2)).trans o2, (hB1.cell (World.block_lt_of_cell? w _ o3)).trans o3, (hB1.cell (World.block_lt_of_cell? w _ o4)).trans o4, (hB1.cell (World.block_lt_of_cell? w _ o5)).trans o5, (hB1.cell (World.block_lt_of_cell? w _ o6)).trans o6⟩ (fun hHeld => ?_)
            clear hK K
            refine norm_ (a' := ?_) ?_ ?_
            rotate_left
            · show Act.put _ (some 92) _ = _
              simp only [Act.put, List.setIfInBounds_toArray, List.set_cons_zero, List.set_cons_succ]
              rfl
            refine pure_ (i := 9) (N := some 93) (v := ?_) (a' := ?_) #[true, true, true, true, true, true, true, true, true, true, false] rfl rfl (by kernel_rfl) (fun _ _ _ h => h) (Or.inl ⟨by rfl, ?_⟩) ?_ ?_
            rotate_left
            · intro w'
              go_simp
              with_reducible rfl
            rotate_left
            · simp only [Act.put, List.setIfInBounds_toArray, List.set_cons_zero, List.set_cons_succ]
              rfl
            refine last_ (i := 10) (N := none) #[true, true, true, true, true, true, true, true, true, true, true] rfl rfl (by kernel_rfl) (by decide) (fun K hK => ?_)
            have q1 := blk_cell hm1 10
            have z1 := blk_frozen hm1 10
            simp only [List.getElem?_toArray, List.getElem?_cons_succ, List.getElem?_cons_zero] at q1
            have HS1 := Lib.hid (HZd.out.sym hR1 hB1 hG1 hat1 rfl)
            clear hm1 hp1 hR1 hB1 hG1 hat1
            refine skip_ (w1 := ?_) (by rfl) rfl ?_ ?_
            rotate_left
            · go_simp
              rfl
            refine hK.out _ _ ?_
            clear hK K
            refine done_ (by kernel_rfl) ?_
            clear q1 z1 p0 p1 p2 p3 p4 p5 p6 hHeld
            go_wp2
            go_roundw
            case rel => exact ⟨i + 1, _, by omega, by go_num, Lib.hid (by rw [HYS.out]; exact HS1.out)⟩
            case measure => simp [intOf]; omega
          · have hT : (x.f10.take i).map symT = x.f10.map symT := by rw [List.take_of_length_le (by omega)]
            rw [hT] at HZ
            clear hT
            obtain ⟨YS, hYS⟩ : ∃ YS, YS = x.f10.map symT := ⟨_, rfl⟩
            rw [← hYS] at HZ
            have HYSS := Lib.hid hYS
            clear hYS
            obtain ⟨Ay, cy, rfl⟩ := Kd.R_slice HZ.out.2.2.2.2.2.1
            have HY := HZ
            clear HZ
            go_wp2
            clear g10
            go_loopw [8] (fun j wr => ∃ (i : Nat) (y11 : Value), i ≤ x.f11.length ∧ j = .int .i64 i ∧ Hid (YQ w wr m gx gy #[.bool big, .bool wide, .int .u8 abi, .int .u8 ver, .string ⟨#[]⟩, .int .u64 ty, .int .u64 mc, .int .u64 en, .int .u64 fg, .int .u64 nm, .slice Av L0.length cv, .slice none 0 0] #[.bool wide, .bool big, .int .u8 abi, .int .u8 ver, .int .u64 ty, .int .u64 mc, .int .u64 en, .int .u64 fg, .int .u64 nm, .slice (some ad) L.length c9, .slice A10 D.length c10] #[.bool false, .bool false, .int .u8 0, .int .u8 0, .string ⟨#[]⟩, .int .u64 0, .int .u64 0, .int .u64 0, .int .u64 0, .int .u64 0, .slice none 0 0, .slice none 0 0] #[.string x.f0, .int .u64 x.f1, .int .u64 x.f2, .int .u64 x.f3, .int .u64 x.f4, .int .u64 x.f5, .int .u64 x.f6, .int .u64 x.f7, .int .u64 x.f8, .string x.f9, .slice B10 x.f10.length d10, .slice B11 x.f11.length d11, .slice B12 x.f12.length d12] #[.string x.f0, .int .u64 x.f1, .int .u64 x.f2, .int .u64 x.f3, .int .u64 x.f4, .int .u64 x.f5, .int .u64 x.f6, .int .u64 x.f7, .int .u64 x.f8, .string x.f9, .slice Ay YS.length cy, y11, .slice Am x.f12.length cm] (.slice Av L0.length cv) L0 (.slice Ay YS.length cy) (y11) (.slice Am x.f12.length cm) YS ((x.f11.take i).map relT) x.f12)) (fun j _ => x.f11.length - (intOf j).toNat)
            case atStart => exact ⟨0, _, Nat.zero_le _, rfl, Lib.hid (by simpa using HY.out)⟩
            case round =>
              obtain ⟨i, y11, hi1, rfl, HZ⟩ := hrel
              clear HY
              have g10 := blk_cell HZ.out.2.1 11
              simp only [List.getElem?_toArray, List.getElem?_cons_succ, List.getElem?_cons_zero] at g10
              by_cases hli : i < x.f11.length
              · obtain ⟨ae, hA2, o0, o1, o2, o3⟩ := at_T74 HG11.out (i : Int) (by omega) (by omega)
                subst hA2
                rw [Int.toNat_natCast] at o0 o1 o2 o3
                obtain ⟨z, hze⟩ : ∃ z, z = rd_T74 x.f11 (i : Int) := ⟨_, rfl⟩
                have HZX := Lib.hid (show z = x.f11[i] by rw [hze]; unfold rd_T74; rw [Int.toNat_natCast]; simp [List.getD, hli])
                rw [← hze] at o0 o1 o2 o3
                clear hze
                obtain ⟨Y0, hY0⟩ : ∃ Y0, Y0 = (x.f11.take i).map relT := ⟨_, rfl⟩
                have HYS := Lib.hid (show (x.f11.take (i + 1)).map relT = Y0 ++ [relT z] by rw [hY0, HZX.out, List.take_succ_eq_append_getElem hli, List.map_append]; rfl)
                have hYl : (Y0.length + 1) * 32 ≤ 140737488355328 := by have := hx.2.1; rw [hY0, List.length_map, List.length_take]; omega
                rw [← hY0] at HZ
                clear hY0
                obtain ⟨Az, cz, rfl⟩ := Kd.R_slice HZ.out.2.2.2.2.2.2.1
                go_upto_region 15 with (fail)
                have HZd := Lib.hid (HZ.out.below (show Below wr.heap.size wr wr.drew from below_drew1 (Below.refl _ _)))
                clear HZ g10
                have p0 := (HZd.out.1.2.1.cell (World.block_lt_of_cell? w _ o0)).trans o0
                have p1 := (HZd.out.1.2.1.cell (World.block_lt_of_cell? w _ o1)).trans o1
                have p2 := (HZd.out.1.2.1.cell (World.block_lt_of_cell? w _ o2)).trans o2
                have p3 := (HZd.out.1.2.1.cell (World.block_lt_of_cell? w _ o3)).trans o3
                refine start_ (n := 11) (S := fun w' => w'.cell? ⟨gy, 11, none⟩ = some (.slice Az Y0.length cz) ∧ w'.cell? ⟨gx, 11, none⟩ = some (.slice (some ae) x.f11.length d11) ∧ w'.cell? (ae.add (i * 4)) = some (.int .u64 z.f0) ∧ w'.cell? ⟨(ae.add (i * 4)).block, (ae.add (i * 4)).off + 1, none⟩ = some (.int .u64 z.f1) ∧ w'.cell? ⟨(ae.add (i * 4)).block, (ae.add (i * 4)).off + 2, none⟩ = some (.int .u64 z.f2) ∧ w'.cell? ⟨(ae.add (i * 4)).block, (ae.add (i * 4)).off + 3, none⟩ = some (.int .u64 z.f3)) (ds := [10]) #[false, false, false, false, false, false, false, false, false, false, false] (by kernel_rfl) (by rfl) (by rfl) ⟨blk_cell HZd.out.2.2.1 11, blk_cell HZd.out.2.1 11, p0, p1, p2, p3⟩ (fun hHeld => ?_)
                generalize wr.drew = wd at HZd p0 p1 p2 p3 hHeld ⊢
                refine pure_ (i := 0) (N := some 101) (v := ?_) (a' := ?_) #[true, false, false, false, false, false, false, false, false, false, false] rfl rfl (by kernel_rfl) (fun _ _ _ h => h) (Or.inl ⟨by rfl, ?_⟩) ?_ ?_
                rotate_left
                · intro w'
                  go_simp
                  with_reducible rfl
                rotate_left
                · simp only [Act.put, List.setIfInBounds_toArray, List.set_cons_zero, List.set_cons_succ]
                  rfl
                refine take_ (i := 1) (N := some 102) (v := ?_) (a' := ?_) #[true, true, false, false, false, false, false, false, false, false, false] rfl rfl (by kernel_rfl) (fun _ _ _ h => h) (Or.inl ⟨by rfl, ?_⟩) hHeld ?_ ?_
                rotate_left
                · rintro w' ⟨s0, s1, s2, s3, s4, s5⟩
                  go_simp
                  with_reducible rfl
                rotate_left
                · simp only [Act.put, List.setIfInBounds_toArray, List.set_cons_zero, List.set_cons_succ]
                  rfl
                refine pure_ (i := 2) (N := some 103) (v := ?_) (a' := ?_) #[true, true, true, false, false, false, false, false, false, false, false] rfl rfl (by kernel_rfl) (fun _ _ _ h => h) (Or.inl ⟨by rfl, ?_⟩) ?_ ?_
                rotate_left
                · intro w'
                  go_simp
                  with_reducible rfl
                rotate_left
                · simp only [Act.put, List.setIfInBounds_toArray, List.set_cons_zero, List.set_cons_succ]
                  rfl
                refine take_ (i := 3) (N := some 104) (v := ?_) (a' := ?_) #[true, true, true, true, false, false, false, false, false, false, false] rfl rfl (by kernel_rfl) (fun _ _ _ h => h) (Or.inl ⟨by rfl, ?_⟩) hHeld ?_ ?_
                rotate_left
                · rintro w' ⟨s0, s1, s2, s3, s4, s5⟩
                  go_simp
                  with_reducible rfl
                rotate_left
                · simp only [Act.put, List.setIfInBounds_toArray, List.set_cons_zero, List.set_cons_succ]
                  rfl
                refine pure_ (i := 4) (N := some 105) (v := ?_) (a' := ?_) #[true, true, true, true, true, false, false, false, false, false, false] rfl rfl (by kernel_rfl) (fun _ _ _ h => h) (Or.inl ⟨by rfl, ?_⟩) ?_ ?_
                rotate_left
                · intro w'
                  go_simp
                  with_reducible rfl
                rotate_left
                · simp only [Act.put, List.setIfInBounds_toArray, List.set_cons_zero, List.set_cons_succ]
                  rfl
                refine pure_ (i := 5) (N := some 106) (v := ?_) (a' := ?_) #[true, true, true, true, true, true, false, false, false, false, false] rfl rfl (by kernel_rfl) (fun _ _ _ h => h) (Or.inl ⟨by rfl, ?_⟩) ?_ ?_
                rotate_left
                · intro w'
                  go_simp
                  with_reducible rfl
                rotate_left
                · simp only [Act.put, List.setIfInBounds_toArray, List.set_cons_zero, List.set_cons_succ]
                  rfl
                refine take_ (i := 6) (N := some 107) (v := ?_) (a' := ?_) #[true, true, true, true, true, true, true, false, false, false, false] rfl rfl (by kernel_rfl) (fun _ _ _ h => h) (Or.inl ⟨by rfl, ?_⟩) hHeld ?_ ?_
                rotate_left
                · rintro w' ⟨s0, s1, s2, s3, s4, s5⟩
                  go_simp
                  with_reducible rfl
                rotate_left
                · simp only [Act.put, List.setIfInBounds_toArray, List.set_cons_zero, List.set_cons_succ]
                  rfl
                refine one_ (i := 7) (N := some 108) #[true, true, true, true, true, true, true, true, false, false, false] rfl rfl (by kernel_rfl) (by decide) (fun K hK => ?_)
                refine value_ (w1 := ?_) (v := ?_) (by rfl) rfl ?_ ?_
                rotate_left 2
                · go_simp
                  constructor
                  · rfl
                  · rfl
                refine hK.out _ _ ⟨blk_cell (blk_alloc HZd.out.2.2.1 _) 11, blk_cell (blk_alloc HZd.out.2.1 _) 11, ((below_alloc (Below.refl _ _) _).cell (World.block_lt_of_cell? wd _ p0)).trans p0, ((below_alloc (Below.refl _ _) _).cell (World.block_lt_of_cell? wd _ p1)).trans p1, ((below_alloc (Below.refl _ _) _).cell (World.block_lt_of_cell? wd _ p2)).trans p2, ((below_alloc (Below.refl _ _) _).cell (World.block_lt_of_cell? wd _ p3)).trans p3⟩ (fun hHeld => ?_)
                clear hK K
                refine norm_ (a' := ?_) ?_ ?_
                rotate_left
                · show Act.put _ (some 108) _ = _
                  simp only [Act.put, List.setIfInBounds_toArray, List.set_cons_zero, List.set_cons_succ]
                  rfl
                refine one_ (i := 8) (N := some 109) #[true, true, true, true, true, true, true, true, true, false, false] rfl rfl (by kernel_rfl) (by decide) (fun K hK => ?_)
                refine Kd.R_append_step k82 (w0 := w) w.heap.size (by rfl) (.tmp 102) (.tmp 108) 78 82 _ 32 rfl Tryz.underlying78 info82 rfl (by decide) (by omega) (.slice Az Y0.length cz) Y0 (⟨z.f0, z.f1, z.f2, z.f3⟩ : S82) _ (fun _ => True) (fun _ => False) rfl rfl (k82_mkM _ _ _ _) (fun _ hk => hk.elim) (fun _ _ => trivial) HZd.out.2.2.2.2.2.2.1 HZd.out.1.2.1 HZd.out.1.2.1.size hYl ?_
                intro v1 w1 hR1 hB1 hG1 hat1
                obtain ⟨AV, cV, rfl⟩ := Kd.R_slice hR1
                simp only [List.length_append, List.length_singleton] at hR1 hat1
                have hm1 := blk_grown HZd.out.2.2.1 hG1 (Kd.R_ne HZd.out.2.2.2.2.2.2.1 HZd.out.2.2.1 (by decide))
                have hp1 := blk_grown HZd.out.2.1 hG1 (Kd.R_ne HZd.out.2.2.2.2.2.2.1 HZd.out.2.1 (by decide))
                refine hK.out _ _ ⟨blk_cell hm1 11, blk_cell hp1 11, (hB1.cell (World.block_lt_of_cell? w _ o0)).trans o0, (hB1.cell (World.block_lt_of_cell? w _ o1)).trans o1, (hB1.cell (World.block_lt_of_cell? w _ o2)).trans o2, (hB1.cell (World.block_lt_of_cell? w _ o3)).trans o3⟩ (fun hHeld => ?_)
                clear hK K
                refine norm_ (a' := ?_) ?_ ?_
                rotate_left
                · show Act.put _ (some 109) _ = _
                  simp only [Act.put, List.setIfInBounds_toArray, List.set_cons_zero, List.set_cons_succ]
                  rfl
                refine pure_ (i := 9) (N := some 110) (v := ?_) (a' := ?_) #[true, true, true, true, true, true, true, true, true, true, false] rfl rfl (by kernel_rfl) (fun _ _ _ h => h) (Or.inl ⟨by rfl, ?_⟩) ?_ ?_
                rotate_left
                · intro w'
                  go_simp
                  with_reducible rfl
                rotate_left
                · simp only [Act.put, List.setIfInBounds_toArray, List.set_cons_zero, List.set_cons_succ]
                  rfl
                refine last_ (i := 10) (N := none) #[true, true, true, true, true, true, true, true, true, true, true] rfl rfl (by kernel_rfl) (by decide) (fun K hK => ?_)
                have q1 := blk_cell hm1 11
                have z1 := blk_frozen hm1 11
                simp only [List.getElem?_toArray, List.getElem?_cons_succ, List.getElem?_cons_zero] at q1
                have HS1 := Lib.hid (HZd.out.rel hR1 hB1 hG1 hat1 rfl)
                clear hm1 hp1 hR1 hB1 hG1 hat1
                refine skip_ (w1 := ?_) (by rfl) rfl ?_ ?_
                rotate_left
                · go_simp
                  rfl
                refine hK.out _ _ ?_
                clear hK K
                refine done_ (by kernel_rfl) ?_
                clear q1 z1 p0 p1 p2 p3 hHeld
                go_wp2
                go_roundw
                case rel => exact ⟨i + 1, _, by omega, by go_num, Lib.hid (by rw [HYS.out]; exact HS1.out)⟩
                case measure => simp [intOf]; omega
              · have hT : (x.f11.take i).map relT = x.f11.map relT := by rw [List.take_of_length_le (by omega)]
                rw [hT] at HZ
                clear hT
                obtain ⟨ZS, hZS⟩ : ∃ ZS, ZS = x.f11.map relT := ⟨_, rfl⟩
                rw [← hZS] at HZ
                have HZSS := Lib.hid hZS
                clear hZS
                obtain ⟨Az, cz, rfl⟩ := Kd.R_slice HZ.out.2.2.2.2.2.2.1
                have HV := Lib.hid (Kd.R_mono (ok' := fun _ => True) HZ.out.2.2.2.2.1 (fun _ _ => trivial))
                have q10 := blk_cell HZ.out.1.1 10
                have y0 := blk_cell HZ.out.2.2.1 0
                have y1 := blk_cell HZ.out.2.2.1 1
                have y2 := blk_cell HZ.out.2.2.1 2
                have y3 := blk_cell HZ.out.2.2.1 3
                have y4 := blk_cell HZ.out.2.2.1 4
                have y5 := blk_cell HZ.out.2.2.1 5
                have y6 := blk_cell HZ.out.2.2.1 6
                have y7 := blk_cell HZ.out.2.2.1 7
                have y8 := blk_cell HZ.out.2.2.1 8
                have y9 := blk_cell HZ.out.2.2.1 9
                have y10 := blk_cell HZ.out.2.2.1 10
                have y11 := blk_cell HZ.out.2.2.1 11
                have y12 := blk_cell HZ.out.2.2.1 12
                simp only [List.getElem?_toArray, List.getElem?_cons_succ, List.getElem?_cons_zero] at q10 y0 y1 y2 y3 y4 y5 y6 y7 y8 y9 y10 y11 y12
                go_wp2_with (first | (at_builtin; refine Kd.R_append k80 (w0 := w) w.heap.size rfl (.tmp 112) (.tmp 114) 45 80 _ _ rfl Tryz.underlying45 info80 rfl (by decide) (by omega) (.slice Av L0.length cv) L0 (⟨x.f0, x.f1, x.f2, x.f3, x.f4, x.f5, x.f6, x.f7, x.f8, x.f9, YS, ZS, x.f12⟩ : S80) _ (fun _ => True) (fun k => True ∧ some k ≠ (Value.slice Av L0.length cv).ownBlock) rfl rfl (k80_mkM _ _ _ _ (Kd.R_apart' HZ.out.2.2.2.2.2.1 (Kd.R_typed HV.out) (by decide)) (Kd.R_apart' HZ.out.2.2.2.2.2.2.1 (Kd.R_typed HV.out) (by decide)) (Kd.R_apart' HZ.out.2.2.2.2.2.2.2 (Kd.R_typed HV.out) (by decide))) (fun k h => ⟨trivial, h.2⟩) (fun _ _ => trivial) HV.out HZ.out.1.2.1 HZ.out.1.2.1.size hL0l ?_))
                intro v6 w6 hR6 hB6 hG6 hat6
                obtain ⟨A6, c6, rfl⟩ := Kd.R_slice hR6
                simp only [List.length_append, List.length_singleton] at hR6
                have hm6 := (HZ.out.1.grown HV.out (by decide) (by decide) hG6 hB6).1
                have q96 := blk_cell hm6 10
                have z96 := blk_frozen hm6 10
                simp only [List.getElem?_toArray, List.getElem?_cons_succ, List.getElem?_cons_zero] at q96
                have HP6 := Lib.hid (HZ.out.sec hR6 hB6 hG6 rfl)
                clear hm6 hR6 hB6 hG6 hat6 q10 g10 y0 y1 y2 y3 y4 y5 y6 y7 y8 y9 y10 y11 y12
                go_wp2
                clear q96 z96
                go_roundw
                case rel =>
                  refine ⟨k + 1, _, by omega, by go_num, Lib.hid ⟨HP6.out.1, ?_⟩⟩
                  rw [HLS.out]
                  have h := HP6.out.2
                  rw [HYSS.out, HZSS.out] at h
                  exact h
                case measure => simp [intOf]; omega
    · have hT : (L.take k).map secT = L.map secT := by rw [List.take_of_length_le (by omega)]
      rw [hT] at HH
      clear hT
      obtain ⟨LS, hLS⟩ : ∃ LS, LS = L.map secT := ⟨_, rfl⟩
      rw [← hLS] at HH
      have HLSS := Lib.hid hLS
      clear hLS
      obtain ⟨Av, cv, rfl⟩ := Kd.R_slice HH.out.2
      go_wp2
      clear p9b
      go_loopw [9] (fun j wr => ∃ (i : Nat) (vs : Value), i ≤ D.length ∧ j = .int .i64 i ∧ Hid (TSt w wr m #[.bool big, .bool wide, .int .u8 abi, .int .u8 ver, .string ⟨#[]⟩, .int .u64 ty, .int .u64 mc, .int .u64 en, .int .u64 fg, .int .u64 nm, .slice Av LS.length cv, vs] #[.bool wide, .bool big, .int .u8 abi, .int .u8 ver, .int .u64 ty, .int .u64 mc, .int .u64 en, .int .u64 fg, .int .u64 nm, .slice A9 L.length c9, .slice A10 D.length c10] #[.bool false, .bool false, .int .u8 0, .int .u8 0, .string ⟨#[]⟩, .int .u64 0, .int .u64 0, .int .u64 0, .int .u64 0, .int .u64 0, .slice none 0 0, .slice none 0 0] ∧ Kd.R k80 80 wr w.heap.size (fun _ => True) (.slice Av LS.length cv) LS ∧ Kd.R k83 83 wr w.heap.size (fun _ => True) vs ((D.take i).map segT))) (fun j _ => D.length - (intOf j).toNat)
      case atStart => exact ⟨0, _, Nat.zero_le _, rfl, Lib.hid ⟨HH.out.1, HH.out.2, by simpa using Kd.R_nil _ _ _ _ _⟩⟩
      case round =>
        obtain ⟨i, vs, hi1, rfl, HS⟩ := hrel
        clear HH
        have g10 := blk_cell HS.out.1.2.2.1 10
        simp only [List.getElem?_toArray, List.getElem?_cons_succ, List.getElem?_cons_zero] at g10
        by_cases hli : i < D.length
        · obtain ⟨ae, hA2, o0, o1, o2, o3, o4, o5, o6⟩ := at_T76 HD.out (i : Int) (by omega) (by omega)
          subst hA2
          rw [Int.toNat_natCast] at o0 o1 o2 o3 o4 o5 o6
          obtain ⟨z, hze⟩ : ∃ z, z = rd_T76 D (i : Int) := ⟨_, rfl⟩
          have HZX := Lib.hid (show z = D[i] by rw [hze]; unfold rd_T76; rw [Int.toNat_natCast]; simp [List.getD, hli])
          rw [← hze] at o0 o1 o2 o3 o4 o5 o6
          clear hze
          obtain ⟨Y0, hY0⟩ : ∃ Y0, Y0 = (D.take i).map segT := ⟨_, rfl⟩
          have HYS := Lib.hid (show (D.take (i + 1)).map segT = Y0 ++ [segT z] by rw [hY0, HZX.out, List.take_succ_eq_append_getElem hli, List.map_append]; rfl)
          have hYl : (Y0.length + 1) * 64 ≤ 140737488355328 := by rw [hY0, List.length_map, List.length_take]; omega
          rw [← hY0] at HS
          clear hY0
          obtain ⟨Ax, cx, rfl⟩ := Kd.R_slice HS.out.2.2
          go_upto_region 20 with (fail)
          have HZd := Lib.hid (show TSt w wr.drew m #[.bool big, .bool wide, .int .u8 abi, .int .u8 ver, .string ⟨#[]⟩, .int .u64 ty, .int .u64 mc, .int .u64 en, .int .u64 fg, .int .u64 nm, .slice Av LS.length cv, .slice Ax Y0.length cx] #[.bool wide, .bool big, .int .u8 abi, .int .u8 ver, .int .u64 ty, .int .u64 mc, .int .u64 en, .int .u64 fg, .int .u64 nm, .slice A9 L.length c9, .slice (some ae) D.length c10] #[.bool false, .bool false, .int .u8 0, .int .u8 0, .string ⟨#[]⟩, .int .u64 0, .int .u64 0, .int .u64 0, .int .u64 0, .int .u64 0, .slice none 0 0, .slice none 0 0] ∧ Kd.R k80 80 wr.drew w.heap.size (fun _ => True) (.slice Av LS.length cv) LS ∧ Kd.R k83 83 wr.drew w.heap.size (fun _ => True) (.slice Ax Y0.length cx) Y0 from ⟨HS.out.1.below (show Below wr.heap.size wr wr.drew from below_drew1 (Below.refl _ _)), Kd.R_drew HS.out.2.1, Kd.R_drew HS.out.2.2⟩)
          clear HS g10
          have p0 := (HZd.out.1.2.1.cell (World.block_lt_of_cell? w _ o0)).trans o0
          have p1 := (HZd.out.1.2.1.cell (World.block_lt_of_cell? w _ o1)).trans o1
          have p2 := (HZd.out.1.2.1.cell (World.block_lt_of_cell? w _ o2)).trans o2
          have p3 := (HZd.out.1.2.1.cell (World.block_lt_of_cell? w _ o3)).trans o3
          have p4 := (HZd.out.1.2.1.cell (World.block_lt_of_cell? w _ o4)).trans o4
          have p5 := (HZd.out.1.2.1.cell (World.block_lt_of_cell? w _ o5)).trans o5
          have p6 := (HZd.out.1.2.1.cell (World.block_lt_of_cell? w _ o6)).trans o6
          refine start_ (n := 11) (S := fun w' => w'.cell? ⟨m, 11, none⟩ = some (.slice Ax Y0.length cx) ∧ w'.cell? ⟨w.heap.size, 10, none⟩ = some (.slice (some ae) D.length c10) ∧ w'.cell? (ae.add (i * 7)) = some (.int .u64 z.f0) ∧ w'.cell? ⟨(ae.add (i * 7)).block, (ae.add (i * 7)).off + 1, none⟩ = some (.int .u64 z.f1) ∧ w'.cell? ⟨(ae.add (i * 7)).block, (ae.add (i * 7)).off + 2, none⟩ = some (.int .u64 z.f2) ∧ w'.cell? ⟨(ae.add (i * 7)).block, (ae.add (i * 7)).off + 3, none⟩ = some (.int .u64 z.f3) ∧ w'.cell? ⟨(ae.add (i * 7)).block, (ae.add (i * 7)).off + 4, none⟩ = some (.int .u64 z.f4) ∧ w'.cell? ⟨(ae.add (i * 7)).block, (ae.add (i * 7)).off + 5, none⟩ = some (.int .u64 z.f5) ∧ w'.cell? ⟨(ae.add (i * 7)).block, (ae.add (i * 7)).off + 6, none⟩ = some (.string z.f6)) (ds := [10]) #[false, false, false, false, false, false, false, false, false, false, false] (by kernel_rfl) (by rfl) (by rfl) ⟨blk_cell HZd.out.1.1 11, blk_cell HZd.out.1.2.2.1 10, p0, p1, p2, p3, p4, p5, p6⟩ (fun hHeld => ?_)
          generalize wr.drew = wd at HZd p0 p1 p2 p3 p4 p5 p6 hHeld ⊢
          refine pure_ (i := 0) (N := some 124) (v := ?_) (a' := ?_) #[true, false, false, false, false, false, false, false, false, false, false] rfl rfl (by kernel_rfl) (fun _ _ _ h => h) (Or.inl ⟨by rfl, ?_⟩) ?_ ?_
          rotate_left
          · intro w'
            go_simp
            with_reducible rfl
          rotate_left
          · simp only [Act.put, List.setIfInBounds_toArray, List.set_cons_zero, List.set_cons_succ]
            rfl
          refine take_ (i := 1) (N := some 125) (v := ?_) (a' := ?_) #[true, true, false, false, false, false, false, false, false, false, false] rfl rfl (by kernel_rfl) (fun _ _ _ h => h) (Or.inl ⟨by rfl, ?_⟩) hHeld ?_ ?_
          rotate_left
          · rintro w' ⟨s0, s1, s2, s3, s4, s5, s6, s7, s8⟩
            go_simp
            with_reducible rfl
          rotate_left
          · simp only [Act.put, List.setIfInBounds_toArray, List.set_cons_zero, List.set_cons_succ]
            rfl
          refine pure_ (i := 2) (N := some 126) (v := ?_) (a' := ?_) #[true, true, true, false, false, false, false, false, false, false, false] rfl rfl (by kernel_rfl) (fun _ _ _ h => h) (Or.inl ⟨by rfl, ?_⟩) ?_ ?_
          rotate_left
          · intro w'
            go_simp
            with_reducible rfl
          rotate_left
          · simp only [Act.put, List.setIfInBounds_toArray, List.set_cons_zero, List.set_cons_succ]
            rfl
          refine take_ (i := 3) (N := some 127) (v := ?_) (a' := ?_) #[true, true, true, true, false, false, false, false, false, false, false] rfl rfl (by kernel_rfl) (fun _ _ _ h => h) (Or.inl ⟨by rfl, ?_⟩) hHeld ?_ ?_
          rotate_left
          · rintro w' ⟨s0, s1, s2, s3, s4, s5, s6, s7, s8⟩
            go_simp
            with_reducible rfl
          rotate_left
          · simp only [Act.put, List.setIfInBounds_toArray, List.set_cons_zero, List.set_cons_succ]
            rfl
          refine pure_ (i := 4) (N := some 128) (v := ?_) (a' := ?_) #[true, true, true, true, true, false, false, false, false, false, false] rfl rfl (by kernel_rfl) (fun _ _ _ h => h) (Or.inl ⟨by rfl, ?_⟩) ?_ ?_
          rotate_left
          · intro w'
            go_simp
            with_reducible rfl
          rotate_left
          · simp only [Act.put, List.setIfInBounds_toArray, List.set_cons_zero, List.set_cons_succ]
            rfl
          refine pure_ (i := 5) (N := some 129) (v := ?_) (a' := ?_) #[true, true, true, true, true, true, false, false, false, false, false] rfl rfl (by kernel_rfl) (fun _ _ _ h => h) (Or.inl ⟨by rfl, ?_⟩) ?_ ?_
          rotate_left
          · intro w'
            go_simp
            with_reducible rfl
          rotate_left
          · simp only [Act.put, List.setIfInBounds_toArray, List.set_cons_zero, List.set_cons_succ]
            rfl
          refine take_ (i := 6) (N := some 130) (v := ?_) (a' := ?_) #[true, true, true, true, true, true, true, false, false, false, false] rfl rfl (by kernel_rfl) (fun _ _ _ h => h) (Or.inl ⟨by rfl, ?_⟩) hHeld ?_ ?_
          rotate_left
          · rintro w' ⟨s0, s1, s2, s3, s4, s5, s6, s7, s8⟩
            go_simp
            with_reducible rfl
          rotate_left
          · simp only [Act.put, List.setIfInBounds_toArray, List.set_cons_zero, List.set_cons_succ]
            rfl
          refine one_ (i := 7) (N := some 131) #[true, true, true, true, true, true, true, true, false, false, false] rfl rfl (by kernel_rfl) (by decide) (fun K hK => ?_)
          refine value_ (w1 := ?_) (v := ?_) (by rfl) rfl ?_ ?_
          rotate_left 2
          · go_simp
            constructor
            · rfl
            · rfl
          refine hK.out _ _ ⟨blk_cell (blk_alloc HZd.out.1.1 _) 11, blk_cell (blk_alloc HZd.out.1.2.2.1 _) 10, ((below_alloc (Below.refl _ _) _).cell (World.block_lt_of_cell? wd _ p0)).trans p0, ((below_alloc (Below.refl _ _) _).cell (World.block_lt_of_cell? wd _ p1)).trans p1, ((below_alloc (Below.refl _ _) _).cell (World.block_lt_of_cell? wd _ p2)).trans p2, ((below_alloc (Below.refl _ _) _).cell (World.block_lt_of_cell? wd _ p3)).trans p3, ((below_alloc (Below.refl _ _) _).cell (World.block_lt_of_cell? wd _ p4)).trans p4, ((below_alloc (Below.refl _ _) _).cell (World.block_lt_of_cell? wd _ p5)).trans p5, ((below_alloc (Below.refl _ _) _).cell (World.block_lt_of_cell? wd _ p6)).trans p6⟩ (fun hHeld => ?_)
          clear hK K
          refine norm_ (a' := ?_) ?_ ?_
          rotate_left
          · show Act.put _ (some 131) _ = _
            simp only [Act.put, List.setIfInBounds_toArray, List.set_cons_zero, List.set_cons_succ]
            rfl
          refine one_ (i := 8) (N := some 132) #[true, true, true, true, true, true, true, true, true, false, false] rfl rfl (by kernel_rfl) (by decide) (fun K hK => ?_)
          refine Kd.R_append_step k83 (w0 := w) w.heap.size (by rfl) (.tmp 125) (.tmp 131) 46 83 _ 64 rfl Tryz.underlying46 info83 rfl (by decide) (by omega) (.slice Ax Y0.length cx) Y0 (⟨z.f0, z.f1, z.f2, z.f3, z.f4, z.f5, z.f6⟩ : S83) _ (fun _ => True) (fun _ => False) rfl rfl (k83_mkM _ _ _ _) (fun _ hk => hk.elim) (fun _ _ => trivial) HZd.out.2.2 HZd.out.1.2.1 HZd.out.1.2.1.size hYl ?_
          intro v1 w1 hR1 hB1 hG1 hat1
          obtain ⟨AV, cV, rfl⟩ := Kd.R_slice hR1
          simp only [List.length_append, List.length_singleton] at hR1
          have ht1 := HZd.out.1.grown HZd.out.2.2 (by decide) (by decide) hG1 hB1
          refine hK.out _ _ ⟨blk_cell ht1.1 11, blk_cell ht1.2.2.1 10, (hB1.cell (World.block_lt_of_cell? w _ o0)).trans o0, (hB1.cell (World.block_lt_of_cell? w _ o1)).trans o1, (hB1.cell (World.block_lt_of_cell? w _ o2)).trans o2, (hB1.cell (World.block_lt_of_cell? w _ o3)).trans o3, (hB1.cell (World.block_lt_of_cell? w _ o4)).trans o4, (hB1.cell (World.block_lt_of_cell? w _ o5)).trans o5, (hB1.cell (World.block_lt_of_cell? w _ o6)).trans o6⟩ (fun hHeld => ?_)
          clear hK K
          refine norm_ (a' := ?_) ?_ ?_
          rotate_left
          · show Act.put _ (some 132) _ = _
            simp only [Act.put, List.setIfInBounds_toArray, List.set_cons_zero, List.set_cons_succ]
            rfl
          refine pure_ (i := 9) (N := some 133) (v := ?_) (a' := ?_) #[true, true, true, true, true, true, true, true, true, true, false] rfl rfl (by kernel_rfl) (fun _ _ _ h => h) (Or.inl ⟨by rfl, ?_⟩) ?_ ?_
          rotate_left
          · intro w'
            go_simp
            with_reducible rfl
          rotate_left
          · simp only [Act.put, List.setIfInBounds_toArray, List.set_cons_zero, List.set_cons_succ]
            rfl
          refine last_ (i := 10) (N := none) #[true, true, true, true, true, true, true, true, true, true, true] rfl rfl (by kernel_rfl) (by decide) (fun K hK => ?_)
          have q1 := blk_cell ht1.1 11
          have z1 := blk_frozen ht1.1 11
          simp only [List.getElem?_toArray, List.getElem?_cons_succ, List.getElem?_cons_zero] at q1
          have HS1 := Lib.hid (HZd.out.1.seg HZd.out.2.1 HZd.out.2.2 hR1 hB1 hG1 rfl)
          clear ht1 hR1 hB1 hG1 hat1
          refine skip_ (w1 := ?_) (by rfl) rfl ?_ ?_
          rotate_left
          · go_simp
            rfl
          refine hK.out _ _ ?_
          clear hK K
          refine done_ (by kernel_rfl) ?_
          clear q1 z1 p0 p1 p2 p3 p4 p5 p6 hHeld
          go_wp2
          go_roundw
          case rel => exact ⟨i + 1, _, by omega, by go_num, Lib.hid ⟨HS1.out.1, HS1.out.2.1, by rw [HYS.out]; exact HS1.out.2.2⟩⟩
          case measure => simp [intOf]; omega
        · have hT : (D.take i).map segT = D.map segT := by rw [List.take_of_length_le (by omega)]
          rw [hT] at HS
          clear hT
          obtain ⟨DS, hDS⟩ : ∃ DS, DS = D.map segT := ⟨_, rfl⟩
          rw [← hDS] at HS
          have HDSS := Lib.hid hDS
          clear hDS
          obtain ⟨Ax, cx, rfl⟩ := Kd.R_slice HS.out.2.2
          have q0 := blk_cell HS.out.1.1 0
          have zf0 := blk_frozen HS.out.1.2.2.2.1 0
          have zc0 := blk_cell HS.out.1.2.2.2.1 0
          have q1 := blk_cell HS.out.1.1 1
          have zf1 := blk_frozen HS.out.1.2.2.2.1 1
          have zc1 := blk_cell HS.out.1.2.2.2.1 1
          have q2 := blk_cell HS.out.1.1 2
          have zf2 := blk_frozen HS.out.1.2.2.2.1 2
          have zc2 := blk_cell HS.out.1.2.2.2.1 2
          have q3 := blk_cell HS.out.1.1 3
          have zf3 := blk_frozen HS.out.1.2.2.2.1 3
          have zc3 := blk_cell HS.out.1.2.2.2.1 3
          have q4 := blk_cell HS.out.1.1 4
          have zf4 := blk_frozen HS.out.1.2.2.2.1 4
          have zc4 := blk_cell HS.out.1.2.2.2.1 4
          have q5 := blk_cell HS.out.1.1 5
          have zf5 := blk_frozen HS.out.1.2.2.2.1 5
          have zc5 := blk_cell HS.out.1.2.2.2.1 5
          have q6 := blk_cell HS.out.1.1 6
          have zf6 := blk_frozen HS.out.1.2.2.2.1 6
          have zc6 := blk_cell HS.out.1.2.2.2.1 6
          have q7 := blk_cell HS.out.1.1 7
          have zf7 := blk_frozen HS.out.1.2.2.2.1 7
          have zc7 := blk_cell HS.out.1.2.2.2.1 7
          have q8 := blk_cell HS.out.1.1 8
          have zf8 := blk_frozen HS.out.1.2.2.2.1 8
          have zc8 := blk_cell HS.out.1.2.2.2.1 8
          have q9 := blk_cell HS.out.1.1 9
          have zf9 := blk_frozen HS.out.1.2.2.2.1 9
          have zc9 := blk_cell HS.out.1.2.2.2.1 9
          have q10 := blk_cell HS.out.1.1 10
          have zf10 := blk_frozen HS.out.1.2.2.2.1 10
          have zc10 := blk_cell HS.out.1.2.2.2.1 10
          have q11 := blk_cell HS.out.1.1 11
          have zf11 := blk_frozen HS.out.1.2.2.2.1 11
          have zc11 := blk_cell HS.out.1.2.2.2.1 11
          simp only [List.getElem?_toArray, List.getElem?_cons_succ, List.getElem?_cons_zero] at q0 zc0 q1 zc1 q2 zc2 q3 zc3 q4 zc4 q5 zc5 q6 zc6 q7 zc7 q8 zc8 q9 zc9 q10 zc10 q11 zc11
          go_wp2
          clear q0 zf0 zc0 q1 zf1 zc1 q2 zf2 zc2 q3 zf3 zc3 q4 zf4 zc4 q5 zf5 zc5 q6 zf6 zc6 q7 zf7 zc7 q8 zf8 zc8 q9 zf9 zc9 q10 zf10 zc10 q11 zf11 zc11
          have h1 := putAll_new (g := w.heap.size + 1) (w := wr) _ [.bool big, .bool wide, .int .u8 abi, .int .u8 ver, .string ⟨#[]⟩, .int .u64 ty, .int .u64 mc, .int .u64 en, .int .u64 fg, .int .u64 nm, .slice Av LS.length cv, .slice Ax DS.length cx] HS.out.1.2.2.2.1 rfl
          have h2 := putAll_RT HS.out.2.1 HS.out.1.2.2.2.1 (by decide) [.bool big, .bool wide, .int .u8 abi, .int .u8 ver, .string ⟨#[]⟩, .int .u64 ty, .int .u64 mc, .int .u64 en, .int .u64 fg, .int .u64 nm, .slice Av LS.length cv, .slice Ax DS.length cx] 0
          have h3 := putAll_RT HS.out.2.2 HS.out.1.2.2.2.1 (by decide) [.bool big, .bool wide, .int .u8 abi, .int .u8 ver, .string ⟨#[]⟩, .int .u64 ty, .int .u64 mc, .int .u64 en, .int .u64 fg, .int .u64 nm, .slice Av LS.length cv, .slice Ax DS.length cx] 0
          have h4 := putAll_below (Nat.le_succ _) [.bool big, .bool wide, .int .u8 abi, .int .u8 ver, .string ⟨#[]⟩, .int .u64 ty, .int .u64 mc, .int .u64 en, .int .u64 fg, .int .u64 nm, .slice Av LS.length cv, .slice Ax DS.length cx] 0 wr HS.out.1.2.1
          simp only [putAll, Nat.reduceAdd] at h1 h2 h3 h4
          rw [← HLSS.out, ← HDSS.out]
          refine ⟨rfl, .agg #[.bool big, .bool wide, .int .u8 abi, .int .u8 ver, .string ⟨#[]⟩, .int .u64 ty, .int .u64 mc, .int .u64 en, .int .u64 fg, .int .u64 nm, .slice Av LS.length cv, .slice Ax DS.length cx], ?_, ?_⟩
          · exact results_cell_row rfl _ _ (w.heap.size + 1) 48 #[.bool big, .bool wide, .int .u8 abi, .int .u8 ver, .string ⟨#[]⟩, .int .u64 ty, .int .u64 mc, .int .u64 en, .int .u64 fg, .int .u64 nm, .slice Av LS.length cv, .slice Ax DS.length cx] (0, 0) _ rfl h1 Tryz.underlying48 rfl sizeMod
          · exact ⟨_, _, rfl, h2, h3, h4⟩
end Go.Proofs.YtkbamfiokhmpjaaGreatDoor

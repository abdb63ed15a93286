/- Contracts over this translation, models: Copy. -/
import Derived.Test.YthphhogljniofaaDoorXKdM17I
import Derived.Test.YthphhogljniofaaDoorXKdM17K
import Derived.Test.YthphhogljniofaaDoorWApart
namespace Go.Proofs.YthphhogljniofaaDoor
set_option linter.unusedVariables false
set_option linter.unusedSimpArgs false
open Go.RowKit Go.Proofs.YthphhogljniofaaDoorX.Kd Go.Proofs.YthphhogljniofaaDoorW.PrintWords Go.Proofs.YthphhogljniofaaDoorW.PrintLast Go.Proofs.YthphhogljniofaaDoorW.PrintMore

/-- A section that is copied already (true), or not yet: then it is as it was in w0. -/
def kcp (w0 : World) : Kd (S58 × Bool) where
  sz := k58.sz
  E := k58.E
  K := fun w x cs => (x.2 = true → k58.K w x.1 cs) ∧ (x.2 = false → k58.K w0 x.1 cs)
  M := fun w base ok x cs => (x.2 = true → k58.M w base ok x.1 cs) ∧ (x.2 = false → k58.K w0 x.1 cs)
  K_len := fun {w x cs} h => by
    cases hx : x.2 with
    | true => exact k58.K_len (h.1 hx)
    | false => exact k58.K_len (h.2 hx)
  K_one := fun {w x cs} h => by
    cases hx : x.2 with
    | true => exact k58.K_one (h.1 hx)
    | false => exact k58.K_one (h.2 hx)
  K_below := fun hb h => ⟨fun hx => k58.K_below hb (h.1 hx), h.2⟩
  K_of_M := fun h => ⟨fun hx => k58.K_of_M (h.1 hx), h.2⟩
  M_mono := fun hok h => ⟨fun hx => k58.M_mono hok (h.1 hx), h.2⟩
  M_bound := fun h => ⟨fun hx => k58.M_bound (h.1 hx), h.2⟩
  M_move := fun hm h => ⟨fun hx => k58.M_move hm (h.1 hx), h.2⟩
  M_lower := fun hb h => ⟨fun hx => k58.M_lower hb (h.1 hx), h.2⟩
/-- The first i are copied. -/
def mixL (L : List S58) (i : Nat) : List (S58 × Bool) := L.zipIdx.map fun p => (p.1, decide (p.2 < i))
theorem mixL_len (L : List S58) (i : Nat) : (mixL L i).length = L.length := by unfold mixL; simp
theorem mixL_get (L : List S58) (i j : Nat) : (mixL L i)[j]? = L[j]?.map fun x => (x, decide (j < i)) := by
  unfold mixL
  rw [List.getElem?_map, List.getElem?_zipIdx, Nat.zero_add]
  cases L[j]? <;> rfl
theorem mixL_set (L : List S58) (i : Nat) (hi : i < L.length) : (mixL L i).set i (L[i], true) = mixL L (i + 1) := by
  apply List.ext_getElem?
  intro j
  rw [mixL_get, List.getElem?_set, mixL_get, mixL_len]
  by_cases h : i = j
  · subst h
    rw [if_pos rfl, if_pos hi, List.getElem?_eq_getElem hi]
    simp
  · rw [if_neg h]
    cases L[j]? with
    | none => rfl
    | some x =>
      simp only [Option.map_some]
      rw [show decide (j < i) = decide (j < i + 1) from by rw [decide_eq_decide]; omega]
/-- What Clone leaves. -/
theorem kcp_start {w0 w : World} {base : Nat} {v : Value} {L : List S58} (h : (Kd.fixed k58 w0).R 58 w base (fun _ => True) v L) : Kd.S (kcp w0) 58 w base (fun _ => True) v (mixL L 0) := by
  obtain ⟨h0, inner, ho, hr⟩ := h
  refine ⟨fun _ => 0, h0, inner, by rw [List.length_zipIdx, mixL_len]; exact ho, by rw [List.length_zipIdx, mixL_len]; exact hr.1, fun j p hj => ?_⟩
  rw [List.getElem?_zipIdx, Nat.zero_add, mixL_get] at hj
  cases hx : L[j]? with
  | none => rw [hx] at hj; cases hj
  | some x =>
    rw [hx] at hj
    have hp : p = ((x, false), j) := by simpa using hj.symm
    subst hp
    exact ⟨(fun h => by cases h), fun _ => hr.2 j x hx⟩
/-- When all are copied. -/
theorem kcp_end {w0 w : World} {base : Nat} {v : Value} {L : List S58} (h : Kd.S (kcp w0) 58 w base (fun _ => True) v (mixL L L.length)) : Kd.S k58 58 w base (fun _ => True) v L := by
  obtain ⟨f, h0, inner, ho, hr⟩ := h
  rw [List.length_zipIdx, mixL_len] at ho
  have hl := hr.1
  rw [List.length_zipIdx, mixL_len] at hl
  refine ⟨f, h0, inner, by rw [List.length_zipIdx]; exact ho, by rw [List.length_zipIdx]; exact hl, fun j p hj => ?_⟩
  rw [List.getElem?_zipIdx, Nat.zero_add] at hj
  obtain ⟨x, hx, rfl⟩ := Option.map_eq_some_iff.1 hj
  have hjl := (List.getElem?_eq_some_iff.1 hx).1
  have hq := hr.2 j ((x, true), j) (by
    rw [List.getElem?_zipIdx, Nat.zero_add, mixL_get, hx]
    simp [hjl])
  exact hq.1 rfl
/-- One section more: its rows are new, its cells are written. -/
theorem kcp_step {w1 W0 W : World} {base g n cap : Nat} {L : List S58} (i : Nat) (hi : i < L.length) (hbase : base ≤ W0.heap.size) (h : Kd.S (kcp w1) 58 W0 base (fun _ => True) (.slice (some ⟨g, 0, none⟩) n cap) (mixL L i)) (hb : Below W0.heap.size W0 W) {y10 y11 y12 : Value}
    (r10 : Kd.R k61 61 W W0.heap.size (fun _ => True) y10 L[i].f10) (r11 : Kd.R k63 63 W W0.heap.size (fun _ => True) y11 L[i].f11) (r12 : (Kd.int .u64).R 35 W W0.heap.size (fun _ => True) y12 L[i].f12) :
    Kd.S (kcp w1) 58 (((W.setCell ⟨g, i * 13 + 10, none⟩ y10).setCell ⟨g, i * 13 + 11, none⟩ y11).setCell ⟨g, i * 13 + 12, none⟩ y12) base (fun _ => True) (.slice (some ⟨g, 0, none⟩) n cap) (mixL L (i + 1)) ∧ W.grownBy (((W.setCell ⟨g, i * 13 + 10, none⟩ y10).setCell ⟨g, i * 13 + 11, none⟩ y11).setCell ⟨g, i * 13 + 12, none⟩ y12) (some g) := by
  have hn : n = L.length := by have := (Kd.S_reads' h).1; rw [mixL_len] at this; exact this
  obtain ⟨oki, c, hcl, hM, hcc, hoki, hH⟩ := Kd.S_lend h (L[i], false) (i : Int) (by omega) (by omega)
  rw [Int.toNat_natCast] at hM hcc
  have hgd : (mixL L i).getD i (L[i], false) = (L[i], false) := by
    rw [List.getD_eq_getElem?_getD, mixL_get, List.getElem?_eq_getElem hi]
    simp
  rw [hgd] at hM
  obtain ⟨A10, c10, A11, c11, A12, c12, rfl, _⟩ := k58_open (hM.2 rfl)
  clear hM
  have hty : ∀ k, (Value.slice (some ⟨g, 0, none⟩) n cap).ownBlock = some k → ∃ cells, W.heap[k]? = some (.cells cells 58 (0, 0)) := Kd.S_typed (Kd.S_below h hb)
  have hg0 : (Value.slice (some ⟨g, 0, none⟩) n cap).ownBlock = some g := by simp [Value.ownBlock]
  have hH1 := Kd.H_below (Kd.H_widen hH) hb
  obtain ⟨hH2, hg2⟩ := Kd.H_seg hH1 (by omega) (by omega) (seg := [y10, y11, y12]) (j := 10) (by show 10 + 3 ≤ k58.sz; decide) (by
    intro q hq
    simp only [List.mem_cons, List.not_mem_nil, or_false] at hq
    rcases hq with rfl | rfl | rfl
    · exact (Kd.R_val r10).2
    · exact (Kd.R_val r11).2
    · exact (Kd.R_val r12).2)
  rw [Int.toNat_natCast] at hH2 hg2
  have he : W.setCells g (i * k58.sz + 10) [y10, y11, y12] = ((W.setCell ⟨g, i * 13 + 10, none⟩ y10).setCell ⟨g, i * 13 + 11, none⟩ y11).setCell ⟨g, i * 13 + 12, none⟩ y12 := rfl
  have he2 : W.setCells g (i * (kcp w1).sz + 10) [y10, y11, y12] = W.setCells g (i * k58.sz + 10) [y10, y11, y12] := rfl
  rw [he2, he] at hH2 hg2
  have q10 := Kd.R_over' r10 hty (by decide) (hg0.symm ▸ hg2)
  have q11 := Kd.R_over' r11 hty (by decide) (hg0.symm ▸ hg2)
  have q12 := Kd.R_over' r12 hty (by decide) (hg0.symm ▸ hg2)
  refine ⟨?_, hg2⟩
  have hlo : ∀ k, (True ∧ W0.heap.size ≤ k) → (oki k ∨ True ∧ W0.heap.size ≤ k) := fun k hk => .inr hk
  have hM : (kcp w1).M (((W.setCell ⟨g, i * 13 + 10, none⟩ y10).setCell ⟨g, i * 13 + 11, none⟩ y11).setCell ⟨g, i * 13 + 12, none⟩ y12) base (fun k => True ∧ W0.heap.size ≤ k) (L[i], true) ([.string L[i].f0, .int .u64 L[i].f1, .int .u64 L[i].f2, .int .u64 L[i].f3, .int .u64 L[i].f4, .int .u64 L[i].f5, .int .u64 L[i].f6, .int .u64 L[i].f7, .int .u64 L[i].f8, .string L[i].f9, y10, y11, y12]) :=
    ⟨fun _ => k58_mkM _ _ _ _ (Kd.R_lower (Kd.R_mono (Kd.R_bound q10) (fun k hk => ⟨trivial, hk.2.1⟩)) hbase) (Kd.R_lower (Kd.R_mono (Kd.R_bound q11) (fun k hk => ⟨trivial, hk.2.1⟩)) hbase) (Kd.R_lower (Kd.R_mono (Kd.R_bound q12) (fun k hk => ⟨trivial, hk.2.1⟩)) hbase), (fun h => by cases h)⟩
  have hS := Kd.H_back (x' := (L[i], true)) hH2 hM hlo
  rw [Int.toNat_natCast, mixL_set L i hi] at hS
  exact hS
/-- Where Copy stands. -/
def CSt (w0 wx : World) (MC RC : Array Value) : Prop :=
  wx.heap[w0.heap.size]? = some (.cells MC 39 (0, 0)) ∧ Below w0.heap.size w0 wx ∧ wx.heap[w0.heap.size + 1]? = some (.cells RC 39 (0, 0))
theorem CSt.below {w0 wx wy : World} {MC RC : Array Value} (h : CSt w0 wx MC RC) (hb : Below wx.heap.size wx wy) : CSt w0 wy MC RC :=
  ⟨blk_below h.1 hb, h.2.1.trans (hb.mono h.2.1.size), blk_below h.2.2 hb⟩
theorem CSt.put {w0 wx : World} {MC MC' RC : Array Value} (h : CSt w0 wx MC RC) (i : Nat) (u : Value) (e : MC.setIfInBounds i u = MC') : CSt w0 (wx.setCell ⟨w0.heap.size, i, none⟩ u) MC' RC :=
  ⟨blk_put h.1 i _ e, h.2.1.setCell (Nat.le_refl _) _, blk_far h.2.2 (by show w0.heap.size + 1 ≠ w0.heap.size; omega) _⟩
theorem CSt.row {w0 wx w1 : World} {g : Nat} {cells : Array Value} {MC RC : Array Value} (h : CSt w0 wx MC RC) (hg : wx.heap[g]? = some (.cells cells 58 (0, 0))) (hge : w0.heap.size ≤ g) (hG : wx.grownBy w1 (some g)) : CSt w0 w1 MC RC :=
  ⟨blk_grown h.1 hG (by intro he; injection he with he; exact blk_ne h.1 hg (by decide) he), h.2.1.grown hG h.2.1.size (fun j hj => by injection hj with hj; omega), blk_grown h.2.2 hG (by intro he; injection he with he; exact blk_ne h.2.2 hg (by decide) he)⟩
theorem putAll_S {α : Type} {d : Kd α} {e base g : Nat} {v : Value} {xs : List α} : ∀ (vs : List Value) (i : Nat) (w : World), Kd.S d e w base (fun k => k ≠ g) v xs → Kd.S d e (putAll w g i vs) base (fun k => k ≠ g) v xs
  | [], _, _, h => h
  | u :: r, i, w, h => putAll_S r (i + 1) _ (Kd.S_far (p := ⟨g, i, none⟩) h (fun k hk => hk) u)
set_option maxRecDepth 100000 in
set_option maxHeartbeats 16000000 in
theorem copy_any (big wide : Bool) (abi ver : Int) (pad : ByteArray) (ty mc en fg nm : Int) (L : List S58) (D : List S65) (hLl : L.length * 168 ≤ 140737488355328) (hDl : D.length * 64 ≤ 140737488355328) (hX : ∀ x ∈ L, x.f10.length * 64 ≤ 140737488355328 ∧ x.f11.length * 32 ≤ 140737488355328 ∧ x.f12.length * 8 ≤ 140737488355328) (A9 A10 : Option Addr) (c9 c10 : Nat) (w : World) (hL : Kd.C k58 w A9 L.length L) (hD : Kd.C k65 w A10 D.length D) :
    Calls Tryd.prog 13 #[.agg #[.bool big, .bool wide, .int .u8 abi, .int .u8 ver, .string pad, .int .u64 ty, .int .u64 mc, .int .u64 en, .int .u64 fg, .int .u64 nm, .slice A9 L.length c9, .slice A10 D.length c10]] w fun e w' => ∃ v9 v10, e = .returned (.agg #[.bool big, .bool wide, .int .u8 abi, .int .u8 ver, .string pad, .int .u64 ty, .int .u64 mc, .int .u64 en, .int .u64 fg, .int .u64 nm, v9, v10]) ∧ Kd.S k58 58 w' w.heap.size (fun _ => True) v9 L ∧ Kd.R k65 65 w' w.heap.size (fun _ => True) v10 D ∧ Below w.heap.size w w' := by
  have HL := Lib.hid hL
  have HD := Lib.hid hD
  clear hL hD
  go_enter Tryd.func13, Tryd.ntmps13
  go_upto_region 1 with (fail)
  obtain ⟨wA, hwA⟩ : ∃ wA, wA = (w.alloc (.cells #[.bool big, .bool wide, .int .u8 abi, .int .u8 ver, .string pad, .int .u64 ty, .int .u64 mc, .int .u64 en, .int .u64 fg, .int .u64 nm, .slice A9 L.length c9, .slice A10 D.length c10] 39)).alloc (.cells #[.bool false, .bool false, .int .u8 0, .int .u8 0, .string ⟨#[]⟩, .int .u64 0, .int .u64 0, .int .u64 0, .int .u64 0, .int .u64 0, .slice none 0 0, .slice none 0 0] 39) := ⟨_, rfl⟩
  have HT := Lib.hid (show CSt w wA #[.bool big, .bool wide, .int .u8 abi, .int .u8 ver, .string pad, .int .u64 ty, .int .u64 mc, .int .u64 en, .int .u64 fg, .int .u64 nm, .slice A9 L.length c9, .slice A10 D.length c10] #[.bool false, .bool false, .int .u8 0, .int .u8 0, .string ⟨#[]⟩, .int .u64 0, .int .u64 0, .int .u64 0, .int .u64 0, .int .u64 0, .slice none 0 0, .slice none 0 0] from by
    have h1 := blk_new (w.alloc (.cells #[.bool big, .bool wide, .int .u8 abi, .int .u8 ver, .string pad, .int .u64 ty, .int .u64 mc, .int .u64 en, .int .u64 fg, .int .u64 nm, .slice A9 L.length c9, .slice A10 D.length c10] 39)) (.cells #[.bool false, .bool false, .int .u8 0, .int .u8 0, .string ⟨#[]⟩, .int .u64 0, .int .u64 0, .int .u64 0, .int .u64 0, .int .u64 0, .slice none 0 0, .slice none 0 0] 39)
    rw [World.size_alloc] at h1
    rw [hwA]
    exact ⟨blk_alloc (blk_new w _) _, ((Below.refl _ _).alloc (Nat.le_refl _) _).alloc (by simp) _, h1⟩)
  rw [← hwA]
  clear hwA
  have HTd := Lib.hid (HT.out.below (show Below wA.heap.size wA wA.drew from below_drew1 (Below.refl _ _)))
  clear HT
  refine start_ (n := 10) (S := fun w' => w'.cell? ⟨w.heap.size, 10, none⟩ = some (.slice A9 L.length c9) ∧ w'.cell? ⟨w.heap.size, 11, none⟩ = some (.slice A10 D.length c10)) (ds := [7, 9]) #[false, false, false, false, false, false, false, false, false, false] (by kernel_rfl) (by rfl) (by rfl) ⟨blk_cell HTd.out.1 10, blk_cell HTd.out.1 11⟩ (fun hHeld => ?_)
  generalize wA.drew = wd at HTd hHeld ⊢
  refine pure_ (i := 0) (N := some 5) (v := ?_) (a' := ?_) #[true, false, false, false, false, false, false, false, false, false] rfl rfl (by kernel_rfl) (fun _ _ _ h => h) (Or.inl ⟨by rfl, ?_⟩) ?_ ?_
  rotate_left
  · intro w'
    go_simp
    with_reducible rfl
  rotate_left
  · simp only [Act.put, List.setIfInBounds_toArray, List.set_cons_zero, List.set_cons_succ]
    rfl
  refine pure_ (i := 3) (N := some 8) (v := ?_) (a' := ?_) #[true, false, false, true, false, false, false, false, false, false] rfl rfl (by kernel_rfl) (fun _ _ _ h => h) (Or.inl ⟨by rfl, ?_⟩) ?_ ?_
  rotate_left
  · intro w'
    go_simp
    with_reducible rfl
  rotate_left
  · simp only [Act.put, List.setIfInBounds_toArray, List.set_cons_zero, List.set_cons_succ]
    rfl
  refine take_ (i := 1) (N := some 6) (v := ?_) (a' := ?_) #[true, true, false, true, false, false, false, false, false, false] rfl rfl (by kernel_rfl) (fun _ _ _ h => h) (Or.inl ⟨by rfl, ?_⟩) hHeld ?_ ?_
  rotate_left
  · rintro w' ⟨s0, s1⟩
    go_simp
    with_reducible rfl
  rotate_left
  · simp only [Act.put, List.setIfInBounds_toArray, List.set_cons_zero, List.set_cons_succ]
    rfl
  refine take_ (i := 4) (N := some 9) (v := ?_) (a' := ?_) #[true, true, false, true, true, false, false, false, false, false] rfl rfl (by kernel_rfl) (fun _ _ _ h => h) (Or.inl ⟨by rfl, ?_⟩) hHeld ?_ ?_
  rotate_left
  · rintro w' ⟨s0, s1⟩
    go_simp
    with_reducible rfl
  rotate_left
  · simp only [Act.put, List.setIfInBounds_toArray, List.set_cons_zero, List.set_cons_succ]
    rfl
  refine one_ (i := 2) (N := some 7) #[true, true, true, true, true, false, false, false, false, false] rfl rfl (by kernel_rfl) (by decide) (fun K hK => ?_)
  refine goes_ Tryd.func26 (by kernel_rfl) rfl #[.slice A9 L.length c9] (by rfl) rfl rfl (by first | rfl | (simp only [List.map_toArray, List.map_cons, List.map_nil]; rfl)) ?_
  refine (cloneSections_any L A9 c9 w wd HL.out HTd.out.2.1 hLl).mono ?_
  rintro e w1 ⟨v9, rfl, hR1, hB1⟩
  obtain ⟨B9, d9, rfl⟩ := Kd.R_slice hR1
  refine ⟨_, rfl, ?_⟩
  have HT1 := Lib.hid (HTd.out.below hB1)
  have HV1 := Lib.hid (kcp_start (Kd.R_lower hR1 HTd.out.2.1.size))
  clear hR1 hB1
  refine hK.out _ _ ⟨blk_cell HT1.out.1 10, blk_cell HT1.out.1 11⟩ (fun hHeld => ?_)
  clear hK K
  refine norm_ (a' := ?_) ?_ ?_
  rotate_left
  · show Act.put _ (some 7) _ = _
    simp only [Act.put, List.setIfInBounds_toArray, List.set_cons_zero, List.set_cons_succ]
    rfl
  refine pure_ (i := 6) (N := some 11) (v := ?_) (a' := ?_) #[true, true, true, true, true, false, true, false, false, false] rfl rfl (by kernel_rfl) (fun _ _ _ h => h) (Or.inl ⟨by rfl, ?_⟩) ?_ ?_
  rotate_left
  · intro w'
    go_simp
    with_reducible rfl
  rotate_left
  · simp only [Act.put, List.setIfInBounds_toArray, List.set_cons_zero, List.set_cons_succ]
    rfl
  refine one_ (i := 5) (N := some 10) #[true, true, true, true, true, true, true, false, false, false] rfl rfl (by kernel_rfl) (by decide) (fun K hK => ?_)
  refine goes_ Tryd.func27 (by kernel_rfl) rfl #[.slice A10 D.length c10] (by rfl) rfl rfl (by first | rfl | (simp only [List.map_toArray, List.map_cons, List.map_nil]; rfl)) ?_
  refine (cloneSegments_any D A10 c10 w1 (Kd.C_below HD.out HT1.out.2.1) hDl).mono ?_
  rintro e w2 ⟨v10, rfl, hR2, hB2⟩
  obtain ⟨B10, d10, rfl⟩ := Kd.R_slice hR2
  refine ⟨_, rfl, ?_⟩
  have HT2 := Lib.hid (HT1.out.below hB2)
  have HV2 := Lib.hid (Kd.S_below HV1.out hB2)
  have HD2 := Lib.hid (Kd.R_lower hR2 HT1.out.2.1.size)
  clear hR2 hB2
  refine hK.out _ _ ⟨blk_cell HT2.out.1 10, blk_cell HT2.out.1 11⟩ (fun hHeld => ?_)
  clear hK K
  refine norm_ (a' := ?_) ?_ ?_
  rotate_left
  · show Act.put _ (some 10) _ = _
    simp only [Act.put, List.setIfInBounds_toArray, List.set_cons_zero, List.set_cons_succ]
    rfl
  have q1 := blk_cell HT2.out.1 10
  have z1 := blk_frozen HT2.out.1 10
  simp only [List.getElem?_toArray, List.getElem?_cons_succ, List.getElem?_cons_zero] at q1
  have HT3 := Lib.hid (HT2.out.put (MC' := #[.bool big, .bool wide, .int .u8 abi, .int .u8 ver, .string pad, .int .u64 ty, .int .u64 mc, .int .u64 en, .int .u64 fg, .int .u64 nm, .slice B9 L.length d9, .slice A10 D.length c10]) 10 (.slice B9 L.length d9) rfl)
  have HV3 := Lib.hid (Kd.S_set HV2.out HT2.out.1 (by show ∀ q, q ∈ 58 :: k58.E → q ≠ 39; decide) 10 (.slice B9 L.length d9))
  have HD3 := Lib.hid (Kd.R_set HD2.out HT2.out.1 (by decide) 10 (.slice B9 L.length d9))
  refine last_ (i := 7) (N := none) #[true, true, true, true, true, true, true, true, false, false] rfl rfl (by kernel_rfl) (by decide) (fun K hK => ?_)
  refine skip_ (w1 := ?_) (by rfl) rfl ?_ ?_
  rotate_left
  · go_simp
    rfl
  refine hK.out _ _ ?_
  clear hK K q1 z1 HT2 HV2 HD2
  refine pure_ (i := 8) (N := some 12) (v := ?_) (a' := ?_) #[true, true, true, true, true, true, true, true, true, false] rfl rfl (by kernel_rfl) (fun _ _ _ h => h) (Or.inl ⟨by rfl, ?_⟩) ?_ ?_
  rotate_left
  · intro w'
    go_simp
    with_reducible rfl
  rotate_left
  · simp only [Act.put, List.setIfInBounds_toArray, List.set_cons_zero, List.set_cons_succ]
    rfl
  have q1 := blk_cell HT3.out.1 11
  have z1 := blk_frozen HT3.out.1 11
  simp only [List.getElem?_toArray, List.getElem?_cons_succ, List.getElem?_cons_zero] at q1
  have HT4 := Lib.hid (HT3.out.put (MC' := #[.bool big, .bool wide, .int .u8 abi, .int .u8 ver, .string pad, .int .u64 ty, .int .u64 mc, .int .u64 en, .int .u64 fg, .int .u64 nm, .slice B9 L.length d9, .slice B10 D.length d10]) 11 (.slice B10 D.length d10) rfl)
  have HV4 := Lib.hid (Kd.S_set HV3.out HT3.out.1 (by show ∀ q, q ∈ 58 :: k58.E → q ≠ 39; decide) 11 (.slice B10 D.length d10))
  have HD4 := Lib.hid (Kd.R_set HD3.out HT3.out.1 (by decide) 11 (.slice B10 D.length d10))
  refine last_ (i := 9) (N := none) #[true, true, true, true, true, true, true, true, true, true] rfl rfl (by kernel_rfl) (by decide) (fun K hK => ?_)
  refine skip_ (w1 := ?_) (by rfl) rfl ?_ ?_
  rotate_left
  · go_simp
    rfl
  refine hK.out _ _ ?_
  clear hK K q1 z1 HT3 HV3 HD3
  refine done_ (by kernel_rfl) ?_
  clear HTd HT1 HV1 hHeld
  have q10 := blk_cell HT4.out.1 10
  simp only [List.getElem?_toArray, List.getElem?_cons_succ, List.getElem?_cons_zero] at q10
  go_wp2
  clear q10
  go_loopw [16] (fun i wr => ∃ k : Nat, k ≤ L.length ∧ i = .int .i64 k ∧ Hid (CSt w wr #[.bool big, .bool wide, .int .u8 abi, .int .u8 ver, .string pad, .int .u64 ty, .int .u64 mc, .int .u64 en, .int .u64 fg, .int .u64 nm, .slice B9 L.length d9, .slice B10 D.length d10] #[.bool false, .bool false, .int .u8 0, .int .u8 0, .string ⟨#[]⟩, .int .u64 0, .int .u64 0, .int .u64 0, .int .u64 0, .int .u64 0, .slice none 0 0, .slice none 0 0] ∧ Kd.S (kcp w) 58 wr w.heap.size (fun _ => True) (.slice B9 L.length d9) (mixL L k) ∧ Kd.R k65 65 wr w.heap.size (fun _ => True) (.slice B10 D.length d10) D)) (fun i _ => L.length - (intOf i).toNat)
  case atStart => exact ⟨0, Nat.zero_le _, rfl, Lib.hid ⟨HT4.out, HV4.out, HD4.out⟩⟩
  case round =>
    obtain ⟨k, hk1, rfl, HH⟩ := hrel
    clear HT4 HV4 HD4
    have q10 := blk_cell HH.out.1.1 10
    simp only [List.getElem?_toArray, List.getElem?_cons_succ, List.getElem?_cons_zero] at q10
    by_cases hlt : k < L.length
    · obtain ⟨g, cap, hv, hgb, hgl, cells, hgc⟩ := Kd.S_form HH.out.2.1 (by rw [mixL_len]; omega)
      rw [mixL_len] at hv
      injection hv with hv1 hv2 hv3
      subst hv1
      clear hv2 hv3
      obtain ⟨oki, c, hcl, hM, hcc, hfr, hoki, hH⟩ := Kd.S_elem HH.out.2.1 (L[k], false) (k : Int) (by omega) (by omega)
      rw [Int.toNat_natCast] at hM hcc hfr
      have hgd : (mixL L k).getD k (L[k], false) = (L[k], false) := by
        rw [List.getD_eq_getElem?_getD, mixL_get, List.getElem?_eq_getElem hlt]
        simp
      rw [hgd] at hM
      obtain ⟨x, hxe⟩ : ∃ x, x = L[k] := ⟨_, rfl⟩
      have hx := hX x (by rw [hxe]; exact List.getElem_mem hlt)
      have HX := Lib.hid hxe
      rw [← hxe] at hM
      clear hxe hgd
      obtain ⟨E10, e10, E11, e11, E12, e12, rfl, l10, g10, l11, g11, l12, g12⟩ := k58_open (hM.2 rfl)
      have p10 : wr.cell? ⟨g, k * 13 + 10, none⟩ = some (.slice E10 x.f10.length e10) := hcc 10 _ rfl
      have p11 : wr.cell? ⟨g, k * 13 + 11, none⟩ = some (.slice E11 x.f11.length e11) := hcc 11 _ rfl
      have p12 : wr.cell? ⟨g, k * 13 + 12, none⟩ = some (.slice E12 x.f12.length e12) := hcc 12 _ rfl
      clear hM hcc hfr hoki hH hcl oki
      have HG10 := Lib.hid g10
      have HG11 := Lib.hid g11
      have HG12 := Lib.hid g12
      have HGC := Lib.hid hgc
      clear g10 g11 g12 hgc
      go_upto_region 6 with (fail)
      have HTd := Lib.hid (HH.out.1.below (show Below wr.heap.size wr wr.drew from below_drew1 (Below.refl _ _)))
      have HVd := Lib.hid (Kd.S_drew HH.out.2.1)
      have HDd := Lib.hid (Kd.R_drew HH.out.2.2)
      have HGd := Lib.hid (blk_drew HGC.out)
      have p10d : wr.drew.cell? ⟨g, k * 13 + 10, none⟩ = some (.slice E10 x.f10.length e10) := p10
      have p11d : wr.drew.cell? ⟨g, k * 13 + 11, none⟩ = some (.slice E11 x.f11.length e11) := p11
      have p12d : wr.drew.cell? ⟨g, k * 13 + 12, none⟩ = some (.slice E12 x.f12.length e12) := p12
      clear HH HGC p10 p11 p12 q10
      refine start_ (n := 27) (S := fun w' => w'.cell? ⟨g, k * 13 + 10, none⟩ = some (.slice E10 x.f10.length e10) ∧ w'.cell? ⟨g, k * 13 + 11, none⟩ = some (.slice E11 x.f11.length e11) ∧ w'.cell? ⟨g, k * 13 + 12, none⟩ = some (.slice E12 x.f12.length e12)) (ds := [20, 23, 26]) #[false, false, false, false, false, false, false, false, false, false, false, false, false, false, false, false, false, false, false, false, false, false, false, false, false, false, false] (by kernel_rfl) (by rfl) (by rfl) ⟨p10d, p11d, p12d⟩ (fun hHeld => ?_)
      generalize wr.drew = wd at HTd HVd HDd HGd p10d p11d p12d hHeld ⊢
      refine pure_ (i := 0) (N := some 23) (v := ?_) (a' := ?_) #[true, false, false, false, false, false, false, false, false, false, false, false, false, false, false, false, false, false, false, false, false, false, false, false, false, false, false] rfl rfl (by kernel_rfl) (fun _ _ _ h => h) (Or.inl ⟨by rfl, ?_⟩) ?_ ?_
      rotate_left
      · intro w'
        go_simp
        with_reducible rfl
      rotate_left
      · simp only [Act.put, List.setIfInBounds_toArray, List.set_cons_zero, List.set_cons_succ]
        rfl
      refine pure_ (i := 1) (N := some 24) (v := ?_) (a' := ?_) #[true, true, false, false, false, false, false, false, false, false, false, false, false, false, false, false, false, false, false, false, false, false, false, false, false, false, false] rfl rfl (by kernel_rfl) (fun _ _ _ h => h) (Or.inl ⟨by rfl, ?_⟩) ?_ ?_
      rotate_left
      · intro w'
        go_simp
        with_reducible rfl
      rotate_left
      · simp only [Act.put, List.setIfInBounds_toArray, List.set_cons_zero, List.set_cons_succ]
        rfl
      refine pure_ (i := 2) (N := some 25) (v := ?_) (a' := ?_) #[true, true, true, false, false, false, false, false, false, false, false, false, false, false, false, false, false, false, false, false, false, false, false, false, false, false, false] rfl rfl (by kernel_rfl) (fun _ _ _ h => h) (Or.inl ⟨by rfl, ?_⟩) ?_ ?_
      rotate_left
      · intro w'
        go_simp
        with_reducible rfl
      rotate_left
      · simp only [Act.put, List.setIfInBounds_toArray, List.set_cons_zero, List.set_cons_succ]
        rfl
      refine pure_ (i := 3) (N := some 26) (v := ?_) (a' := ?_) #[true, true, true, true, false, false, false, false, false, false, false, false, false, false, false, false, false, false, false, false, false, false, false, false, false, false, false] rfl rfl (by kernel_rfl) (fun _ _ _ h => h) (Or.inl ⟨by rfl, ?_⟩) ?_ ?_
      rotate_left
      · intro w'
        go_simp
        with_reducible rfl
      rotate_left
      · simp only [Act.put, List.setIfInBounds_toArray, List.set_cons_zero, List.set_cons_succ]
        rfl
      refine pure_ (i := 4) (N := some 27) (v := ?_) (a' := ?_) #[true, true, true, true, true, false, false, false, false, false, false, false, false, false, false, false, false, false, false, false, false, false, false, false, false, false, false] rfl rfl (by kernel_rfl) (fun _ _ _ h => h) (Or.inl ⟨by rfl, ?_⟩) ?_ ?_
      rotate_left
      · intro w'
        go_simp
        with_reducible rfl
      rotate_left
      · simp only [Act.put, List.setIfInBounds_toArray, List.set_cons_zero, List.set_cons_succ]
        rfl
      refine pure_ (i := 5) (N := some 28) (v := ?_) (a' := ?_) #[true, true, true, true, true, true, false, false, false, false, false, false, false, false, false, false, false, false, false, false, false, false, false, false, false, false, false] rfl rfl (by kernel_rfl) (fun _ _ _ h => h) (Or.inl ⟨by rfl, ?_⟩) ?_ ?_
      rotate_left
      · intro w'
        go_simp
        with_reducible rfl
      rotate_left
      · simp only [Act.put, List.setIfInBounds_toArray, List.set_cons_zero, List.set_cons_succ]
        rfl
      refine pure_ (i := 8) (N := some 31) (v := ?_) (a' := ?_) #[true, true, true, true, true, true, false, false, true, false, false, false, false, false, false, false, false, false, false, false, false, false, false, false, false, false, false] rfl rfl (by kernel_rfl) (fun _ _ _ h => h) (Or.inl ⟨by rfl, ?_⟩) ?_ ?_
      rotate_left
      · intro w'
        go_simp
        with_reducible rfl
      rotate_left
      · simp only [Act.put, List.setIfInBounds_toArray, List.set_cons_zero, List.set_cons_succ]
        rfl
      refine pure_ (i := 9) (N := some 32) (v := ?_) (a' := ?_) #[true, true, true, true, true, true, false, false, true, true, false, false, false, false, false, false, false, false, false, false, false, false, false, false, false, false, false] rfl rfl (by kernel_rfl) (fun _ _ _ h => h) (Or.inl ⟨by rfl, ?_⟩) ?_ ?_
      rotate_left
      · intro w'
        go_simp
        with_reducible rfl
      rotate_left
      · simp only [Act.put, List.setIfInBounds_toArray, List.set_cons_zero, List.set_cons_succ]
        rfl
      refine pure_ (i := 10) (N := some 33) (v := ?_) (a' := ?_) #[true, true, true, true, true, true, false, false, true, true, true, false, false, false, false, false, false, false, false, false, false, false, false, false, false, false, false] rfl rfl (by kernel_rfl) (fun _ _ _ h => h) (Or.inl ⟨by rfl, ?_⟩) ?_ ?_
      rotate_left
      · intro w'
        go_simp
        with_reducible rfl
      rotate_left
      · simp only [Act.put, List.setIfInBounds_toArray, List.set_cons_zero, List.set_cons_succ]
        rfl
      refine pure_ (i := 13) (N := some 36) (v := ?_) (a' := ?_) #[true, true, true, true, true, true, false, false, true, true, true, false, false, true, false, false, false, false, false, false, false, false, false, false, false, false, false] rfl rfl (by kernel_rfl) (fun _ _ _ h => h) (Or.inl ⟨by rfl, ?_⟩) ?_ ?_
      rotate_left
      · intro w'
        go_simp
        with_reducible rfl
      rotate_left
      · simp only [Act.put, List.setIfInBounds_toArray, List.set_cons_zero, List.set_cons_succ]
        rfl
      refine pure_ (i := 14) (N := some 37) (v := ?_) (a' := ?_) #[true, true, true, true, true, true, false, false, true, true, true, false, false, true, true, false, false, false, false, false, false, false, false, false, false, false, false] rfl rfl (by kernel_rfl) (fun _ _ _ h => h) (Or.inl ⟨by rfl, ?_⟩) ?_ ?_
      rotate_left
      · intro w'
        go_simp
        with_reducible rfl
      rotate_left
      · simp only [Act.put, List.setIfInBounds_toArray, List.set_cons_zero, List.set_cons_succ]
        rfl
      refine pure_ (i := 15) (N := some 38) (v := ?_) (a' := ?_) #[true, true, true, true, true, true, false, false, true, true, true, false, false, true, true, true, false, false, false, false, false, false, false, false, false, false, false] rfl rfl (by kernel_rfl) (fun _ _ _ h => h) (Or.inl ⟨by rfl, ?_⟩) ?_ ?_
      rotate_left
      · intro w'
        go_simp
        with_reducible rfl
      rotate_left
      · simp only [Act.put, List.setIfInBounds_toArray, List.set_cons_zero, List.set_cons_succ]
        rfl
      refine take_ (i := 6) (N := some 29) (v := ?_) (a' := ?_) #[true, true, true, true, true, true, true, false, true, true, true, false, false, true, true, true, false, false, false, false, false, false, false, false, false, false, false] rfl rfl (by kernel_rfl) (fun _ _ _ h => h) (Or.inl ⟨by rfl, ?_⟩) hHeld ?_ ?_
      rotate_left
      · rintro w' ⟨s0, s1, s2⟩
        go_simp
        with_reducible rfl
      rotate_left
      · simp only [Act.put, List.setIfInBounds_toArray, List.set_cons_zero, List.set_cons_succ]
        rfl
      refine take_ (i := 11) (N := some 34) (v := ?_) (a' := ?_) #[true, true, true, true, true, true, true, false, true, true, true, true, false, true, true, true, false, false, false, false, false, false, false, false, false, false, false] rfl rfl (by kernel_rfl) (fun _ _ _ h => h) (Or.inl ⟨by rfl, ?_⟩) hHeld ?_ ?_
      rotate_left
      · rintro w' ⟨s0, s1, s2⟩
        go_simp
        with_reducible rfl
      rotate_left
      · simp only [Act.put, List.setIfInBounds_toArray, List.set_cons_zero, List.set_cons_succ]
        rfl
      refine take_ (i := 16) (N := some 39) (v := ?_) (a' := ?_) #[true, true, true, true, true, true, true, false, true, true, true, true, false, true, true, true, true, false, false, false, false, false, false, false, false, false, false] rfl rfl (by kernel_rfl) (fun _ _ _ h => h) (Or.inl ⟨by rfl, ?_⟩) hHeld ?_ ?_
      rotate_left
      · rintro w' ⟨s0, s1, s2⟩
        go_simp
        with_reducible rfl
      rotate_left
      · simp only [Act.put, List.setIfInBounds_toArray, List.set_cons_zero, List.set_cons_succ]
        rfl
      refine one_ (i := 7) (N := some 30) #[true, true, true, true, true, true, true, true, true, true, true, true, false, true, true, true, true, false, false, false, false, false, false, false, false, false, false] rfl rfl (by kernel_rfl) (by decide) (fun K hK => ?_)
      refine goes_ Tryd.func28 (by kernel_rfl) rfl #[.slice E10 x.f10.length e10] (by rfl) rfl rfl (by first | rfl | (simp only [List.map_toArray, List.map_cons, List.map_nil]; rfl)) ?_
      refine (cloneSymbols_any x.f10 E10 e10 wd (Kd.C_below HG10.out HTd.out.2.1) hx.1).mono ?_
      rintro e w1 ⟨y10, rfl, hR1, hB1⟩
      obtain ⟨Y10, z10, rfl⟩ := Kd.R_slice hR1
      refine ⟨_, rfl, ?_⟩
      have HB1 := Lib.hid hB1
      have HR1 := Lib.hid hR1
      clear hR1 hB1
      refine hK.out _ _ ⟨(HB1.out.cell (World.block_lt_of_cell? wd _ p10d)).trans p10d, (HB1.out.cell (World.block_lt_of_cell? wd _ p11d)).trans p11d, (HB1.out.cell (World.block_lt_of_cell? wd _ p12d)).trans p12d⟩ (fun hHeld => ?_)
      clear hK K
      refine norm_ (a' := ?_) ?_ ?_
      rotate_left
      · show Act.put _ (some 30) _ = _
        simp only [Act.put, List.setIfInBounds_toArray, List.set_cons_zero, List.set_cons_succ]
        rfl
      refine one_ (i := 12) (N := some 35) #[true, true, true, true, true, true, true, true, true, true, true, true, true, true, true, true, true, false, false, false, false, false, false, false, false, false, false] rfl rfl (by kernel_rfl) (by decide) (fun K hK => ?_)
      refine goes_ Tryd.func29 (by kernel_rfl) rfl #[.slice E11 x.f11.length e11] (by rfl) rfl rfl (by first | rfl | (simp only [List.map_toArray, List.map_cons, List.map_nil]; rfl)) ?_
      refine (cloneRelocs_any x.f11 E11 e11 w1 (Kd.C_below HG11.out (HTd.out.below HB1.out).2.1) hx.2.1).mono ?_
      rintro e w2 ⟨y11, rfl, hR2, hB2⟩
      obtain ⟨Y11, z11, rfl⟩ := Kd.R_slice hR2
      refine ⟨_, rfl, ?_⟩
      have HB2 := Lib.hid (HB1.out.trans (hB2.mono HB1.out.size))
      have HR1b := Lib.hid (Kd.R_below HR1.out hB2)
      have HR2 := Lib.hid (Kd.R_lower hR2 HB1.out.size)
      clear hR2 hB2 HR1
      refine hK.out _ _ ⟨(HB2.out.cell (World.block_lt_of_cell? wd _ p10d)).trans p10d, (HB2.out.cell (World.block_lt_of_cell? wd _ p11d)).trans p11d, (HB2.out.cell (World.block_lt_of_cell? wd _ p12d)).trans p12d⟩ (fun hHeld => ?_)
      clear hK K
      refine norm_ (a' := ?_) ?_ ?_
      rotate_left
      · show Act.put _ (some 35) _ = _
        simp only [Act.put, List.setIfInBounds_toArray, List.set_cons_zero, List.set_cons_succ]
        rfl
      refine one_ (i := 17) (N := some 40) #[true, true, true, true, true, true, true, true, true, true, true, true, true, true, true, true, true, true, false, false, false, false, false, false, false, false, false] rfl rfl (by kernel_rfl) (by decide) (fun K hK => ?_)
      refine goes_ Tryd.func30 (by kernel_rfl) rfl #[.slice E12 x.f12.length e12] (by rfl) rfl rfl (by first | rfl | (simp only [List.map_toArray, List.map_cons, List.map_nil]; rfl)) ?_
      refine (cloneInts_any x.f12 E12 e12 w2 (Kd.C_below HG12.out (HTd.out.below HB2.out).2.1) hx.2.2).mono ?_
      rintro e w3 ⟨y12, rfl, hR3, hB3⟩
      obtain ⟨Y12, z12, rfl⟩ := Kd.R_slice hR3
      refine ⟨_, rfl, ?_⟩
      have HB3 := Lib.hid (HB2.out.trans (hB3.mono HB2.out.size))
      have HR1c := Lib.hid (Kd.R_below HR1b.out hB3)
      have HR2c := Lib.hid (Kd.R_below HR2.out hB3)
      have HR3 := Lib.hid (Kd.R_lower hR3 HB2.out.size)
      clear hR3 hB3 HR1b HR2 HB1 HB2
      refine hK.out _ _ ⟨(HB3.out.cell (World.block_lt_of_cell? wd _ p10d)).trans p10d, (HB3.out.cell (World.block_lt_of_cell? wd _ p11d)).trans p11d, (HB3.out.cell (World.block_lt_of_cell? wd _ p12d)).trans p12d⟩ (fun hHeld => ?_)
      clear hK K
      refine norm_ (a' := ?_) ?_ ?_
      rotate_left
      · show Act.put _ (some 40) _ = _
        simp only [Act.put, List.setIfInBounds_toArray, List.set_cons_zero, List.set_cons_succ]
        rfl
      have HST := Lib.hid (kcp_step (y10 := .slice Y10 x.f10.length z10) (y11 := .slice Y11 x.f11.length z11) (y12 := .slice Y12 x.f12.length z12) k hlt HTd.out.2.1.size HVd.out HB3.out (by rw [← HX.out]; exact HR1c.out) (by rw [← HX.out]; exact HR2c.out) (by rw [← HX.out]; exact HR3.out))
      have HT3 := Lib.hid (HTd.out.below HB3.out)
      have HG3 := Lib.hid (blk_below HGd.out HB3.out)
      have HD3 := Lib.hid (Kd.R_below HDd.out HB3.out)
      have t10 := (HB3.out.cell (World.block_lt_of_cell? wd _ p10d)).trans p10d
      have t11 := (HB3.out.cell (World.block_lt_of_cell? wd _ p11d)).trans p11d
      have t12 := (HB3.out.cell (World.block_lt_of_cell? wd _ p12d)).trans p12d
      have f10 := blk_frozen HG3.out (k * 13 + 10)
      have f11 := blk_frozen HG3.out (k * 13 + 11)
      have f12 := blk_frozen HG3.out (k * 13 + 12)
      have t11b : (w3.setCell ⟨g, k * 13 + 10, none⟩ (.slice Y10 x.f10.length z10)).cell? ⟨g, k * 13 + 11, none⟩ = some (.slice E11 x.f11.length e11) := (World.cell?_setCell_other _ _ _ _ (by intro h; injection h with _ h; omega)).trans t11
      have t12b : ((w3.setCell ⟨g, k * 13 + 10, none⟩ (.slice Y10 x.f10.length z10)).setCell ⟨g, k * 13 + 11, none⟩ (.slice Y11 x.f11.length z11)).cell? ⟨g, k * 13 + 12, none⟩ = some (.slice E12 x.f12.length e12) := (World.cell?_setCell_other _ _ _ _ (by intro h; injection h with _ h; omega)).trans ((World.cell?_setCell_other _ _ _ _ (by intro h; injection h with _ h; omega)).trans t12)
      clear HTd HVd HDd HGd HR1c HR2c HR3
      refine pure_ (i := 18) (N := some 41) (v := ?_) (a' := ?_) #[true, true, true, true, true, true, true, true, true, true, true, true, true, true, true, true, true, true, true, false, false, false, false, false, false, false, false] rfl rfl (by kernel_rfl) (fun _ _ _ h => h) (Or.inl ⟨by rfl, ?_⟩) ?_ ?_
      rotate_left
      · intro w'
        go_simp
        with_reducible rfl
      rotate_left
      · simp only [Act.put, List.setIfInBounds_toArray, List.set_cons_zero, List.set_cons_succ]
        rfl
      refine pure_ (i := 19) (N := some 42) (v := ?_) (a' := ?_) #[true, true, true, true, true, true, true, true, true, true, true, true, true, true, true, true, true, true, true, true, false, false, false, false, false, false, false] rfl rfl (by kernel_rfl) (fun _ _ _ h => h) (Or.inl ⟨by rfl, ?_⟩) ?_ ?_
      rotate_left
      · intro w'
        go_simp
        with_reducible rfl
      rotate_left
      · simp only [Act.put, List.setIfInBounds_toArray, List.set_cons_zero, List.set_cons_succ]
        rfl
      refine last_ (i := 20) (N := none) #[true, true, true, true, true, true, true, true, true, true, true, true, true, true, true, true, true, true, true, true, true, false, false, false, false, false, false] rfl rfl (by kernel_rfl) (by decide) (fun K hK => ?_)
      refine skip_ (w1 := ?_) (by rfl) rfl ?_ ?_
      rotate_left
      · go_simp
        rfl
      refine hK.out _ _ ?_
      clear hK K
      refine pure_ (i := 21) (N := some 43) (v := ?_) (a' := ?_) #[true, true, true, true, true, true, true, true, true, true, true, true, true, true, true, true, true, true, true, true, true, true, false, false, false, false, false] rfl rfl (by kernel_rfl) (fun _ _ _ h => h) (Or.inl ⟨by rfl, ?_⟩) ?_ ?_
      rotate_left
      · intro w'
        go_simp
        with_reducible rfl
      rotate_left
      · simp only [Act.put, List.setIfInBounds_toArray, List.set_cons_zero, List.set_cons_succ]
        rfl
      refine pure_ (i := 22) (N := some 44) (v := ?_) (a' := ?_) #[true, true, true, true, true, true, true, true, true, true, true, true, true, true, true, true, true, true, true, true, true, true, true, false, false, false, false] rfl rfl (by kernel_rfl) (fun _ _ _ h => h) (Or.inl ⟨by rfl, ?_⟩) ?_ ?_
      rotate_left
      · intro w'
        go_simp
        with_reducible rfl
      rotate_left
      · simp only [Act.put, List.setIfInBounds_toArray, List.set_cons_zero, List.set_cons_succ]
        rfl
      refine last_ (i := 23) (N := none) #[true, true, true, true, true, true, true, true, true, true, true, true, true, true, true, true, true, true, true, true, true, true, true, true, false, false, false] rfl rfl (by kernel_rfl) (by decide) (fun K hK => ?_)
      refine skip_ (w1 := ?_) (by rfl) rfl ?_ ?_
      rotate_left
      · go_simp
        rfl
      refine hK.out _ _ ?_
      clear hK K
      refine pure_ (i := 24) (N := some 45) (v := ?_) (a' := ?_) #[true, true, true, true, true, true, true, true, true, true, true, true, true, true, true, true, true, true, true, true, true, true, true, true, true, false, false] rfl rfl (by kernel_rfl) (fun _ _ _ h => h) (Or.inl ⟨by rfl, ?_⟩) ?_ ?_
      rotate_left
      · intro w'
        go_simp
        with_reducible rfl
      rotate_left
      · simp only [Act.put, List.setIfInBounds_toArray, List.set_cons_zero, List.set_cons_succ]
        rfl
      refine pure_ (i := 25) (N := some 46) (v := ?_) (a' := ?_) #[true, true, true, true, true, true, true, true, true, true, true, true, true, true, true, true, true, true, true, true, true, true, true, true, true, true, false] rfl rfl (by kernel_rfl) (fun _ _ _ h => h) (Or.inl ⟨by rfl, ?_⟩) ?_ ?_
      rotate_left
      · intro w'
        go_simp
        with_reducible rfl
      rotate_left
      · simp only [Act.put, List.setIfInBounds_toArray, List.set_cons_zero, List.set_cons_succ]
        rfl
      refine last_ (i := 26) (N := none) #[true, true, true, true, true, true, true, true, true, true, true, true, true, true, true, true, true, true, true, true, true, true, true, true, true, true, true] rfl rfl (by kernel_rfl) (by decide) (fun K hK => ?_)
      refine skip_ (w1 := ?_) (by rfl) rfl ?_ ?_
      rotate_left
      · go_simp
        rfl
      refine hK.out _ _ ?_
      clear hK K
      refine done_ (by kernel_rfl) ?_
      clear t10 t11 t12 t11b t12b f10 f11 f12 p10d p11d p12d hHeld
      have HF := Lib.hid (And.intro (HT3.out.row HG3.out hgb HST.out.2) (And.intro HST.out.1 (Kd.R_over' (v := .slice (some ⟨g, 0, none⟩) L.length d9) HD3.out (fun k hk => ⟨_, by
        have h2 : g = k := by simpa [Value.ownBlock] using hk
        subst h2
        exact HG3.out⟩) (by decide) HST.out.2)))
      go_wp2
      go_roundw
      case rel => exact ⟨k + 1, by omega, by go_num, HF⟩
      case measure => simp [intOf]; omega
    · obtain rfl : k = L.length := by omega
      have q0 := blk_cell HH.out.1.1 0
      have zf0 := blk_frozen HH.out.1.2.2 0
      have zc0 := blk_cell HH.out.1.2.2 0
      have q1 := blk_cell HH.out.1.1 1
      have zf1 := blk_frozen HH.out.1.2.2 1
      have zc1 := blk_cell HH.out.1.2.2 1
      have q2 := blk_cell HH.out.1.1 2
      have zf2 := blk_frozen HH.out.1.2.2 2
      have zc2 := blk_cell HH.out.1.2.2 2
      have q3 := blk_cell HH.out.1.1 3
      have zf3 := blk_frozen HH.out.1.2.2 3
      have zc3 := blk_cell HH.out.1.2.2 3
      have q4 := blk_cell HH.out.1.1 4
      have zf4 := blk_frozen HH.out.1.2.2 4
      have zc4 := blk_cell HH.out.1.2.2 4
      have q5 := blk_cell HH.out.1.1 5
      have zf5 := blk_frozen HH.out.1.2.2 5
      have zc5 := blk_cell HH.out.1.2.2 5
      have q6 := blk_cell HH.out.1.1 6
      have zf6 := blk_frozen HH.out.1.2.2 6
      have zc6 := blk_cell HH.out.1.2.2 6
      have q7 := blk_cell HH.out.1.1 7
      have zf7 := blk_frozen HH.out.1.2.2 7
      have zc7 := blk_cell HH.out.1.2.2 7
      have q8 := blk_cell HH.out.1.1 8
      have zf8 := blk_frozen HH.out.1.2.2 8
      have zc8 := blk_cell HH.out.1.2.2 8
      have q9 := blk_cell HH.out.1.1 9
      have zf9 := blk_frozen HH.out.1.2.2 9
      have zc9 := blk_cell HH.out.1.2.2 9
      have q10 := blk_cell HH.out.1.1 10
      have zf10 := blk_frozen HH.out.1.2.2 10
      have zc10 := blk_cell HH.out.1.2.2 10
      have q11 := blk_cell HH.out.1.1 11
      have zf11 := blk_frozen HH.out.1.2.2 11
      have zc11 := blk_cell HH.out.1.2.2 11
      simp only [List.getElem?_toArray, List.getElem?_cons_succ, List.getElem?_cons_zero] at q0 zc0 q1 zc1 q2 zc2 q3 zc3 q4 zc4 q5 zc5 q6 zc6 q7 zc7 q8 zc8 q9 zc9 q10 zc10 q11 zc11
      have HS := Lib.hid (Kd.S_R (kcp_end HH.out.2.1))
      go_wp2
      clear q0 zf0 zc0 q1 zf1 zc1 q2 zf2 zc2 q3 zf3 zc3 q4 zf4 zc4 q5 zf5 zc5 q6 zf6 zc6 q7 zf7 zc7 q8 zf8 zc8 q9 zf9 zc9 q10 zf10 zc10 q11 zf11 zc11
      have h1 := putAll_new (g := w.heap.size + 1) (w := wr) _ [.bool big, .bool wide, .int .u8 abi, .int .u8 ver, .string pad, .int .u64 ty, .int .u64 mc, .int .u64 en, .int .u64 fg, .int .u64 nm, .slice B9 L.length d9, .slice B10 D.length d10] HH.out.1.2.2 rfl
      have h2 := Kd.S_mono (ok' := fun _ => True) (putAll_S [.bool big, .bool wide, .int .u8 abi, .int .u8 ver, .string pad, .int .u64 ty, .int .u64 mc, .int .u64 en, .int .u64 fg, .int .u64 nm, .slice B9 L.length d9, .slice B10 D.length d10] 0 wr (Kd.S_mono (Kd.S_types (kcp_end HH.out.2.1) HH.out.1.2.2 (by decide)) (fun k hk => hk.2))) (fun _ _ => trivial)
      have h3 := putAll_RT HH.out.2.2 HH.out.1.2.2 (by decide) [.bool big, .bool wide, .int .u8 abi, .int .u8 ver, .string pad, .int .u64 ty, .int .u64 mc, .int .u64 en, .int .u64 fg, .int .u64 nm, .slice B9 L.length d9, .slice B10 D.length d10] 0
      have h4 := putAll_below (Nat.le_succ _) [.bool big, .bool wide, .int .u8 abi, .int .u8 ver, .string pad, .int .u64 ty, .int .u64 mc, .int .u64 en, .int .u64 fg, .int .u64 nm, .slice B9 L.length d9, .slice B10 D.length d10] 0 wr HH.out.1.2.1
      simp only [putAll, Nat.reduceAdd] at h1 h2 h3 h4
      refine ⟨rfl, .agg #[.bool big, .bool wide, .int .u8 abi, .int .u8 ver, .string pad, .int .u64 ty, .int .u64 mc, .int .u64 en, .int .u64 fg, .int .u64 nm, .slice B9 L.length d9, .slice B10 D.length d10], ?_, ?_⟩
      · exact results_cell_row rfl _ _ (w.heap.size + 1) 39 #[.bool big, .bool wide, .int .u8 abi, .int .u8 ver, .string pad, .int .u64 ty, .int .u64 mc, .int .u64 en, .int .u64 fg, .int .u64 nm, .slice B9 L.length d9, .slice B10 D.length d10] (0, 0) _ rfl h1 Tryd.underlying39 rfl sizeMod
      · exact ⟨_, _, rfl, h2, h3, h4⟩
end Go.Proofs.YthphhogljniofaaDoor

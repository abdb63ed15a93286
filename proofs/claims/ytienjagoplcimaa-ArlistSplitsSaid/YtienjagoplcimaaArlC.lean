/- Contracts over this translation: slices.Insert of one member, where there is room. -/
import Derived.Test.YtienjagoplcimaaArlB
import Derived.Lib.Overlaps
import Derived.Lib.JoinLaws
import Derived.Lib.AppendZeros
import Derived.Laws.Externs
import Derived.Laws.IdiomCopy
namespace Go.Proofs.Ytienjagoplcimaa
set_option linter.unusedVariables false
set_option linter.unusedSimpArgs false
open Go.RowKit Go.Proofs.YtienjagoplcimaaW.PrintWords

theorem run_copy_sz {P : Program} (w : World) (dT sT ty elem : TypeId) (sz n : Nat) (b o dLen dCap : Nat) (a : Addr) (sLen sCap : Nat) (cs : List Value)
    (hu : P.underlying dT = some (.slice elem)) (hs : (P.info? elem).map (·.size) = some sz) (hn : n = Nat.min sLen dLen) (hl : cs.length = n * sz)
    (hsrc : ∀ j v, cs[j]? = some v → w.cell? (a.add j) = some v) (hc : ∀ j, j < cs.length → (w.cell? ⟨b, o + j, none⟩).isSome = true) (hf : ∀ j, j < cs.length → w.frozen? ⟨b, o + j, none⟩ = false) (h1 : ∀ v ∈ cs, v.oneCell' = true) :
    (Builtin.copy_ #[dT, sT] ty #[.slice (some ⟨b, o, none⟩) dLen dCap, .slice (some a) sLen sCap]).run P w = .ok (goInt n) (w.setCells b o cs) := by
  have hld := run_loadCells_list (P := P) w a cs hsrc
  have hst := run_storeCells_cells (P := P) b o cs 0 w (by simpa using hc) (by simpa using hf) h1
  cases hq : P.info? elem with
  | none => simp [hq] at hs
  | some i =>
    have hi : i.size = sz := by simpa [hq] using hs
    rw [hl] at hld
    simp [Builtin.copy_, run_underlying hu, Builtin.lenOf, Builtin.firstCells, sizeOf, typeInfo, hq, hi, ← hn, hld, hst]
theorem wp_copy_runI {P : Program} (w : World) {o : Oper} {a : Act} {K : Act → World → Prop} {Q : Exit → Act → World → Prop} (d s : Operand) (t t' : TypeId)
    (ho : o.op = .call { callee := .builtin .copy, args := #[d, s], argTypes := #[t, t'] }) (v u : Value) (hd : a.eval d = v) (hs : a.eval s = u) {v' : Value} {w' : World}
    (hr : (Builtin.copy_ #[t, t'] o.type #[v, u]).run P w = .ok v' w') (h : K (a.put o.dst v') w') : o.wp P a w K Q := by
  unfold Oper.wp execOp
  simp only [ho, resolve, invoke, builtin, Sem.run_bind, Sem.run_pure, Result.andThen_ok, List.map_toArray, List.map_cons, List.map_nil, hd, hs, hr]
  exact h
theorem wpList_copy_runI {P : Program} (w : World) {ops : Array Oper} {rest : List Oper} {o : Oper} {a : Act} {Q : Exit → Act → World → Prop} (hgd : o.guard = none) (d s : Operand) (t t' : TypeId)
    (ho : o.op = .call { callee := .builtin .copy, args := #[d, s], argTypes := #[t, t'] }) (v u : Value) (hd : a.eval d = v) (hs : a.eval s = u) {v' : Value} {w' : World}
    (hr : (Builtin.copy_ #[t, t'] o.type #[v, u]).run P w = .ok v' w') (h : wpList P ops Q rest (a.put o.dst v') w') : wpList P ops Q (o :: rest) a w :=
  wpList_plain hgd fun _ hK => wp_copy_runI w d s t t' ho v u hd hs hr (hK _ _ h)
theorem step_copy_runI {P : Program} {ops : Array Oper} {o : Oper} {a : Act} {w : World} {K : Act → World → Prop} {Q : Exit → Act → World → Prop} {E : Prop}
    (hg : o.guard = none) (d x : Operand) (dT sT : TypeId) (hop : o.op = Op.call { callee := Callee.builtin Builtin.copy, args := #[d, x], argTypes := #[dT, sT] })
    (v u : Value) (hd : a.eval d = v) (hx : a.eval x = u) {v' : Value} {w' : World} (hr : (Builtin.copy_ #[dT, sT] o.type #[v, u]).run P w = .ok v' w') (hK : K (a.put o.dst v') w') :
    if Region.wanted o (yielded ops a.tmps) = true then Oper.wp P o a w K Q else E := by
  have hw : Region.wanted o (yielded ops a.tmps) = true := by simp [Region.wanted, hg]
  rw [if_pos hw]
  unfold Oper.wp
  simp [execOp, hop, resolve, invoke, builtin, hd, hx, hr, Result.andThen]
  exact hK
theorem flat_at (l : List MemD) (i : Nat) (hi : i ≤ l.length) : (l.flatMap encM).take (i * 6) = (l.take i).flatMap encM ∧ (l.flatMap encM).drop (i * 6) = (l.drop i).flatMap encM := by
  have h : l.flatMap encM = (l.take i).flatMap encM ++ (l.drop i).flatMap encM := by rw [← List.flatMap_append, List.take_append_drop]
  have hl : ((l.take i).flatMap encM).length = i * 6 := by rw [flat_length encM 6 encM_length, List.length_take, Nat.min_eq_left hi]
  constructor
  · rw [h, List.take_left' hl]
  · rw [h, List.drop_left' hl]
/-- What stands behind the place goes one on, the member goes in. -/
theorem owns_shift {w : World} {base g c : Nat} {e : TypeId} (l : List MemD) (m : MemD) (i : Nat) (hi : i ≤ l.length) (h : w.ownsRow base e 6 (.slice (some ⟨g, 0, none⟩) l.length c) l.length (l.flatMap encM)) (hroom : l.length + 1 ≤ c) :
    ((w.setCells g ((i + 1) * 6) ((l.drop i).flatMap encM)).setCells g (i * 6) (encM m)).ownsRow base e 6 (.slice (some ⟨g, 0, none⟩) (l.length + 1) c) (l.length + 1) ((l.take i ++ m :: l.drop i).flatMap encM) ∧
    w.grownBy ((w.setCells g ((i + 1) * 6) ((l.drop i).flatMap encM)).setCells g (i * 6) (encM m)) (some g) := by
  obtain ⟨hl, h2⟩ := h
  rcases h2 with ⟨hv, _⟩ | ⟨g', cap, cur, hv, hb, hh, h1, h2, h3, h4⟩
  · cases hv
  injection hv with ha _ hc
  injection ha with ha
  injection ha with hg
  subst hg; subst hc
  have hD : ((l.drop i).flatMap encM).length = (l.length - i) * 6 := by rw [flat_length encM 6 encM_length, List.length_drop]
  have hE : (encM m).length = 6 := rfl
  obtain ⟨cur1, p1, p2, p3⟩ := setCells_row ((l.drop i).flatMap encM) ((i + 1) * 6) w cur hh (by rw [hD]; omega)
  obtain ⟨s1, s2, s3, s4⟩ := setCells_same g ((l.drop i).flatMap encM) ((i + 1) * 6) w
  obtain ⟨cur2, q1, q2, q3⟩ := setCells_row (encM m) (i * 6) _ cur1 p1 (by rw [hE]; omega)
  obtain ⟨t1, t2, t3, t4⟩ := setCells_same g (encM m) (i * 6) (w.setCells g ((i + 1) * 6) ((l.drop i).flatMap encM))
  refine ⟨⟨by rw [flat_length encM 6 encM_length]; simp; omega, .inr ⟨g, c, cur2, rfl, hb, q1, hroom, h2, by rw [q2, p2, h3], ?_⟩⟩, ⟨by rw [t1, s1], by rw [t2, s2], by rw [t3, s3], by rw [t4, s4]; exact Nat.le_refl _, fun k' _ hk' => ?_⟩⟩
  · have hcl : cur.toList.length = c * 6 := by rw [Array.length_toList]; exact h3
    have f1 : cur.toList.take (i * 6) = (l.take i).flatMap encM := by
      rw [← (flat_at l i hi).1, ← h4, List.take_take, Nat.min_eq_left (by omega)]
    have f2 : cur1.toList.take (i * 6) = (l.take i).flatMap encM := by
      rw [p3, List.append_assoc, List.take_append_of_le_length (by rw [List.length_take, hcl]; omega), List.take_take, Nat.min_eq_left (by omega), f1]
    have f3 : cur1.toList.drop (i * 6 + 6) = (l.drop i).flatMap encM ++ cur.toList.drop ((i + 1) * 6 + ((l.drop i).flatMap encM).length) := by
      rw [p3, List.append_assoc, show i * 6 + 6 = (i + 1) * 6 by omega, List.drop_left' (by rw [List.length_take, hcl]; omega)]
    rw [q3, hE, f2, f3, List.flatMap_append, List.flatMap_cons, ← List.append_assoc, ← List.append_assoc, List.append_assoc _ (encM m)]
    rw [List.take_left']
    rw [List.length_append, List.length_append, hE, hD, flat_length encM 6 encM_length, List.length_take, Nat.min_eq_left hi]
    omega
  · rw [setCells_far _ _ k' (fun he => hk' (by rw [he])), setCells_far _ _ k' (fun he => hk' (by rw [he]))]
set_option maxHeartbeats 600000 in
set_option maxRecDepth 100000 in
theorem ins_m (l : List MemD) (m : MemD) (i : Nat) (hi : i ≤ l.length) (hl : l.length ≤ 1000000) (g c base vb vc : Nat) (tv : TypeId) (w : World) (hroom : l.length + 1 ≤ c) (hvb : vb ≠ g)
    (hown : w.ownsRow base 28 6 (.slice (some ⟨g, 0, none⟩) l.length c) l.length (l.flatMap encM)) (hv : w.heap[vb]? = some (.cells (encM m).toArray tv (0, 0))) :
    Calls Try.prog 26 #[.slice (some ⟨g, 0, none⟩) l.length c, .int .i64 (i : Int), .slice (some ⟨vb, 0, none⟩) 1 vc] w fun e w' => e = .returned (.slice (some ⟨g, 0, none⟩) (l.length + 1) c) ∧
      w'.ownsRow base 28 6 (.slice (some ⟨g, 0, none⟩) (l.length + 1) c) (l.length + 1) ((l.take i ++ m :: l.drop i).flatMap encM) ∧ w.grownBy w' (some g) := by
  obtain ⟨i0, hi0, hz0, hz1, hz2⟩ := info_parts Try.infoMem
  have hsz : (Try.prog.info? 28).map (·.size) = some 6 := by rw [hi0]; simp [hz1]
  obtain ⟨cur, hh, hc2, hcs, htk⟩ : ∃ cur, w.heap[g]? = some (.cells cur 28 (0, 0)) ∧ c ≤ maxLen ∧ cur.size = c * 6 ∧ cur.toList.take (l.length * 6) = l.flatMap encM := by
    rcases hown.2 with ⟨hv, _⟩ | ⟨g', cap, cur, hv, _, hh, _, h2, h3, h4⟩
    · cases hv
    injection hv with ha _ hc
    injection ha with ha
    injection ha with hg
    subst hg; subst hc
    exact ⟨cur, hh, h2, h3, h4⟩
  have hE : (encM m).length = 6 := rfl
  have hfl := flat_length encM 6 encM_length l
  have hold : ∀ j v, (l.flatMap encM)[j]? = some v → w.cell? ⟨g, j, none⟩ = some v := fun j v hj => by
    rw [← htk, List.getElem?_take] at hj
    split at hj
    · rw [cell_of_row w g j cur _ (0, 0) hh, ← Array.getElem?_toList]; exact hj
    · cases hj
  have hsp : ∀ j, j < (l.length + 1) * 6 → (w.cell? ⟨g, j, none⟩).isSome = true := fun j hj => by
    rw [cell_of_row w g j cur _ (0, 0) hh, Array.getElem?_eq_getElem (by rw [hcs]; omega)]; rfl
  have hfz : ∀ j, w.frozen? ⟨g, j, none⟩ = false := fun j => blk_frozen hh _
  have hnew : ∀ j v, (encM m)[j]? = some v → w.cell? ⟨vb, j, none⟩ = some v := fun j v hj => by
    rw [cell_of_row w vb j _ _ (0, 0) hv, ← Array.getElem?_toList]; exact hj
  have h1m : ∀ v ∈ encM m, v.oneCell' = true := fun v hv => encM_one [m] v (by simpa using hv)
  have hc63 : c ≤ 9223372036854775807 := by unfold maxLen at hc2; omega
  have HP := Lib.hid (owns_shift (w := w.drew) l m i hi hown hroom)
  have HQ := Lib.hid (owns_shift (w := w) l m i hi hown hroom)
  have HC := Lib.hid hcs
  have HH := Lib.hid hh
  clear hcs hc2 hown hh
  have hsn : ∀ w, (Go.sizeOf 28).run Try.prog w = .ok 6 w := fun w => by simp [Go.sizeOf, typeInfo, hi0, hz1]
  by_cases hlt : i < l.length
  · have hz1' : ¬ ((i : Int) = (l.length : Int)) := by omega
    have hov : ∀ lb cb, (callFunc 36 #[.slice (some ⟨vb, 0, none⟩) 1 vc, .slice (some ⟨g, (i + 1) * 6, none⟩) lb cb]).run Try.prog w = .ok (.value (.bool false)) w := fun lb cb => by
      rw [run_callFunc_extern Try.func36 (by kernel_rfl) (by kernel_rfl) (by kernel_rfl) (e := Extern.SlicesOverlaps.overlaps #[24, 24] #[4]) (by kernel_rfl),
        Lib.run_overlaps_apart w 24 4 28 Try.underlying24 6 hsn ⟨vb, 0, none⟩ ⟨g, (i + 1) * 6, none⟩ 1 vc lb cb hvb tv 28 6 cur.size (by simp [World.shape?, hv, encM]) (by simp [World.shape?, HH.out]) (by rw [HC.out]; omega) (blk_frozen hv _) (blk_frozen hv _)]
      rfl
    have hdl : ((l.drop i).flatMap encM).length = (l.length - i) * 6 := by rw [flat_length encM 6 encM_length, List.length_drop]
    have hw1 : IntKind.i64.wrap ((i : Int) + 1) = (i : Int) + 1 := by rw [IntKind.wrap_i64]; omega
    have hb1 : (0 : Int) ≤ (i : Int) + 1 := by omega
    have htn : ((i : Int) + 1).toNat = i + 1 := by omega
    have hb2 : ¬ (c = i + 1) := by omega
    have hb4 : ¬ (c = i) := by omega
    have hb3 : (i : Int) ≤ (l.length : Int) + 1 := by omega
    have mixed : Try.prog.follows .mixedOrders = true := by kernel_rfl
    have hcp1 : ∀ ty dc sc, (Builtin.copy_ #[24, 24] ty #[.slice (some ⟨g, (i + 1) * 6, none⟩) (l.length - i) dc, .slice (some ⟨g, i * 6, none⟩) (l.length + 1 - i) sc]).run Try.prog w.drew = .ok (goInt (l.length - i : Nat)) (w.drew.setCells g ((i + 1) * 6) ((l.drop i).flatMap encM)) := fun ty dc sc =>
      run_copy_sz w.drew _ _ ty 28 6 (l.length - i) g ((i + 1) * 6) (l.length - i) dc ⟨g, i * 6, none⟩ (l.length + 1 - i) sc ((l.drop i).flatMap encM) Try.underlying24 hsz (by simp only [Nat.min_def]; split <;> omega) hdl
        (fun j v hj => by rw [Addr.add_lit]; exact hold (i * 6 + j) v (by rw [← (flat_at l i hi).2, List.getElem?_drop] at hj; exact hj))
        (fun j hj => hsp _ (by omega)) (fun j hj => hfz _) (encM_one _)
    obtain ⟨W1, hW1⟩ : ∃ W1, W1 = w.drew.setCells g ((i + 1) * 6) ((l.drop i).flatMap encM) := ⟨_, rfl⟩
    obtain ⟨cur1, p1, p2, _⟩ := setCells_row ((l.drop i).flatMap encM) ((i + 1) * 6) w.drew cur HH.out (by rw [hdl, HC.out]; omega)
    have hcp2 : ∀ (W : World), W.heap = W1.heap → ∀ ty dc, (Builtin.copy_ #[24, 24] ty #[.slice (some ⟨g, i * 6, none⟩) (l.length + 1 - i) dc, .slice (some ⟨vb, 0, none⟩) 1 vc]).run Try.prog W = .ok (goInt (1 : Nat)) (W.setCells g (i * 6) (encM m)) := fun W hW ty dc => by
      have hWg : W.heap[g]? = some (.cells cur1 28 (0, 0)) := by rw [hW, hW1]; exact p1
      have hWv : W.heap[vb]? = some (.cells (encM m).toArray tv (0, 0)) := by rw [hW, hW1, setCells_far _ _ vb hvb]; exact hv
      exact run_copy_sz W _ _ ty 28 6 1 g (i * 6) (l.length + 1 - i) dc ⟨vb, 0, none⟩ 1 vc (encM m) Try.underlying24 hsz (by simp only [Nat.min_def]; split <;> omega) rfl
        (fun j v hj => by rw [Addr.add_lit, Nat.zero_add, cell_of_row W vb j _ _ (0, 0) hWv, ← Array.getElem?_toList]; exact hj)
        (fun j hj => by rw [hE] at hj; rw [cell_of_row W g _ cur1 _ (0, 0) hWg, Array.getElem?_eq_getElem (by rw [p2, HC.out]; omega)]; rfl) (fun j hj => blk_frozen hWg _) h1m
    rw [← hW1] at hcp1
    go_enter Try.func26, Try.ntmps26
    go_wp2_with (simp only [hov])
    go_region_law_o (refine step_copy_runI rfl _ _ 24 24 rfl _ _ (by simp [Act.eval, Act.put]) (by simp [Act.eval, Act.put]) (hcp1 _ _ _) ?_)
    go_wp2_with (at_builtin; refine wpList_copy_runI _ rfl _ _ 24 24 rfl _ _ rfl rfl (hcp2 _ rfl _ _) ?_)
    go_ret
    have h9 := HP.out
    refine ⟨rfl, ?_⟩
    exact ⟨h9.1, ⟨h9.2.os, h9.2.tape, h9.2.output, h9.2.size, h9.2.block⟩⟩
  · obtain rfl : i = l.length := by omega
    have hsrc : Src Try.prog 6 24 (.slice (some ⟨vb, 0, none⟩) 1 vc) 1 (encM m) w := Src.ofSlice w Try.underlying24 ⟨vb, 0, none⟩ 1 vc (encM m) (by rw [hE]) (fun j u hj => by rw [Addr.add_lit, Nat.zero_add]; exact hnew j u hj) h1m
    have hrm : l.length + 1 ≤ c := hroom
    go_enter Try.func26, Try.ntmps26
    go_wp2_with (at_builtin; refine wpList_append_room_src _ rfl _ _ 24 24 rfl 28 i0 Try.underlying24 hi0 g 0 l.length c rfl _ rfl 1 (encM m) (by rw [hz1]; exact hsrc) hrm (by rw [hz1, hE, Nat.zero_add]; exact fun j hj => hsp _ (by omega)) (by rw [hz1]; exact fun j hj => hfz _) ?_)
    go_ret
    have h9 := HQ.out
    rw [List.drop_length] at h9
    simp only [List.flatMap_nil, World.setCells] at h9
    rw [List.drop_length]
    refine ⟨rfl, ?_⟩
    simpa [hz1] using h9
end Go.Proofs.Ytienjagoplcimaa

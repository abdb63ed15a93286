/- Contracts over this translation: dynrec.PutDynamic. -/
import Derived.Test.YtcfbdnlbgcoicaaDoorDynA
import Derived.Test.YtcfbdnlbgcoicaaDoorBuilder2
import Derived.Laws.AppendOwnNone
namespace Go.Proofs.YtcfbdnlbgcoicaaDoor
set_option linter.unusedVariables false
set_option linter.unusedSimpArgs false
open Go.RowKit

/-- What is appended is nil, whatever its capacity says. -/
theorem append_nil_any {P : Program} {w : World} {ops : Array Oper} {rest : List Oper} {o : Oper} {a : Act} {Q : Exit → Act → World → Prop} (hgd : o.guard = none) (s x : Operand) (t : TypeId)
    (ho : o.op = .call { callee := .builtin .append, args := #[s, x], argTypes := #[t, t] })
    (base : Nat) (e : TypeId) (i : TypeInfo) (size : Nat) (ht : P.underlying t = some (.slice e)) (hi : P.info? e = some i)
    (v : Value) (n : Nat) (xs : List Value) (hs : a.eval s = v) (hown : w.ownsRow base e size v n xs) (c : Nat) (hx : a.eval x = .slice none 0 c)
    (h : wpList P ops Q rest (a.put o.dst v) w) : wpList P ops Q (o :: rest) a w := by
  refine wpList_plain hgd fun K hK => ?_
  have hrun : (Builtin.append_ #[t, t] o.type #[v, .slice none 0 c]).run P w = .ok v w := by
    rcases hown.2 with ⟨rfl, rfl⟩ | ⟨g, cap, cur, rfl, _, _, hnc, _⟩
    · simp [Builtin.append_, run_underlying ht, sizeOf, typeInfo, hi, Builtin.lenOf, Builtin.firstCells]
    · simp [Builtin.append_, run_underlying ht, sizeOf, typeInfo, hi, Builtin.lenOf, Builtin.firstCells, hnc, storeCells]
  unfold Oper.wp
  simp [execOp, ho, resolve, invoke, builtin, hs, hx, hrun, Result.andThen]
  exact hK _ _ h

set_option maxHeartbeats 8000000 in
theorem putDynamic_nil (big wide : Bool) (l : List (Nat × Nat)) (hl : l.length ≤ 100) (hns : ∀ e ∈ l, e.1 < 18446744073709551616 ∧ e.2 < 18446744073709551616) (hl0 : l.length = 0) (w : World) (cc : Nat)
    (hr : Rd w (none) (l.flatMap encE)) :
    Calls Tryd.prog 12 #[.agg #[.bool big, .bool wide], .slice (none) 0 cc] w fun e w' => e = .returned (.tuple #[.string ⟨(if dynOk wide l then dynL big wide l else []).toArray⟩, .bool (dynOk wide l)]) ∧ Below w.heap.size w w' := by
  obtain ⟨i0, hi, hz0, hz1, hz2⟩ := info_parts Tryd.infoEntry
  obtain ⟨rs, hrs⟩ : ∃ rs, rs = (if dynOk wide l = true then dynL big wide l else []) := ⟨_, rfl⟩
  obtain ⟨ok, hok⟩ : ∃ ok, ok = dynOk wide l := ⟨_, rfl⟩
  rw [← hrs, ← hok]
  rw [← hok] at hrs
  have HRS := Lib.hid hrs
  have HOK := Lib.hid hok
  have HR := Lib.hid hr
  have HN := Lib.hid hns
  clear hrs hok hr hns
  have HFL := Lib.hid (flat_length encE 2 encE_length l)
  have hK := Lib.hid (World.ownsRow_nil ((w.alloc (.cells #[.bool big, .bool wide] 27)).alloc (.cells #[.pointer none, .slice none 0 0] 66)) (w.heap.size + 2) 51 2)
  go_enter Tryd.func12, Tryd.ntmps12
  obtain ⟨w1, hw1⟩ : ∃ w1, w1 = ((w.alloc (.cells #[.bool big, .bool wide] 27)).alloc (.cells #[.pointer none, .slice none 0 0] 66)) := ⟨_, rfl⟩
  have hsz1 : w.heap.size + 2 ≤ w1.heap.size := by rw [hw1]; simp
  have hlnil : l = [] := List.eq_nil_of_length_eq_zero hl0
  have HO1 := Lib.hid (show w1.ownsRow (w.heap.size + 2) 51 2 (.slice none 0 0) l.length (l.flatMap encE) by rw [hlnil, hw1]; exact hK.out)
  have HB1 := Lib.hid (show Below (w.heap.size + 2) ((w.alloc (.cells #[.bool big, .bool wide] 27)).alloc (.cells #[.pointer none, .slice none 0 0] 66)) w1 by rw [hw1]; exact Below.refl _ _)
  have HNL := Lib.hid hlnil
  have HW1 := Lib.hid hw1
  clear hlnil hw1
  go_wp2_with (first
    | (at_builtin; (refine append_nil_any rfl _ _ 47 rfl (w.heap.size + 2) 51 i0 2 Tryd.underlying47 hi _ _ _ rfl hK.out cc rfl ?_; clear hK; rw [← HW1.out]))
    | (at_builtin; refine wpList_append_own _ rfl _ _ 47 rfl (w.heap.size + 2) 51 i0 (.agg #[.int .u64 0, .int .u64 0]) 2 16 Tryd.underlying47 hi hz0 hz1 hz2 rfl (by decide) _ _ _ rfl (HO1.out.alloc _) ⟨w1.heap.size, 0, none⟩ 1 1 [.int .u64 0, .int .u64 0] rfl rfl ?c1 ?c2 ?c3 ?c4 ?c5 ?_))
  case c1 => exact new_cells _ _ [_, _] _ (by simp)
  case c2 => intro u hu; simp at hu; subst hu; rfl
  case c3 => unfold maxLen; omega
  case c4 => omega
  case c5 => simp; omega
  intro v2 w2 hown2 hgrow2 hn2
  clear hn2 hi hz0 hz1 hz2
  obtain ⟨xs, hxs⟩ : ∃ xs, xs = l ++ [(0, 0)] := ⟨_, rfl⟩
  have hxl : xs.length = 1 := by rw [hxs]; simp [hl0]
  have hcs : l.flatMap encE ++ [.int .u64 0, .int .u64 0] = xs.flatMap encE := by rw [hxs]; simp [encE]
  rw [hcs, ← hxl] at hown2
  obtain ⟨va, vc, rfl⟩ := own_slice hown2
  obtain ⟨g, hga, hg1, hg2⟩ := lt_of_own hown2 (by omega)
  subst hga
  have hrd := Rd.of_own hown2
  have hb2 : Below (w.heap.size + 2) w1 w2 := below_own ((Below.refl _ _).alloc hsz1 _) HO1.out hgrow2 (by simp; omega) (Nat.le_refl _)
  have HX := Lib.hid hxs
  have HXN := Lib.hid (show ∀ e ∈ xs, e.1 < 18446744073709551616 ∧ e.2 < 18446744073709551616 by
    intro e he; rw [hxs] at he
    rcases List.mem_append.1 he with h | h
    · exact HN.out e h
    · simp at h; subst h; exact ⟨by decide, by decide⟩)
  have HRD := Lib.hid hrd
  have HB2 := Lib.hid (HB1.out.trans hb2)
  have hxl2 : xs.length ≤ 101 := by omega
  have HXL := Lib.hid hxl
  have hsz2 : w.heap.size + 2 ≤ w2.heap.size := by have := hb2.size; omega
  have hbx0 : w2.cell? ⟨w.heap.size, 0, none⟩ = some (.bool big) := (HB2.out.cell (p := ⟨w.heap.size, 0, none⟩) (by simp)).trans (by rw [World.cell?_alloc_past _ _ _ (by simp), World.cell?_alloc_new]; rfl)
  have hbx1 : w2.cell? ⟨w.heap.size, 1, none⟩ = some (.bool wide) := (HB2.out.cell (p := ⟨w.heap.size, 1, none⟩) (by simp)).trans (by rw [World.cell?_alloc_past _ _ _ (by simp), World.cell?_alloc_new]; rfl)
  have hbl : w2.heap[w.heap.size + 1]? = some (.cells #[.pointer none, .slice none 0 0] 66 (0, 0)) := by
    rw [HB2.out.block _ (by omega)]
    show ((w.heap.push _).push _)[w.heap.size + 1]? = _
    rw [Array.getElem?_push, if_pos (by simp)]
  have HBL := Lib.hid (Bld.fresh hbl (by omega) (Nat.le_refl _))
  have HC := Lib.hid (And.intro hbx0 hbx1)
  clear hown2 hgrow2 hxs hcs hrd hb2 hxl hbx0 hbx1 hbl
  go_wp2
  go_loopw [19] (fun i wr => ∃ k : Nat, k ≤ xs.length ∧ i = .int .i64 k ∧ Hid (Bld w2.heap.size (w.heap.size + 1) ((xs.take k).flatMap (entL big wide)) wr) ∧ Hid (KeepB w2.heap.size (w.heap.size + 1) w2 wr) ∧ Hid ((xs.take k).all (entFit wide) = true)) (fun i _ => xs.length - (intOf i).toNat)
  case atStart => exact ⟨0, Nat.zero_le _, rfl, HBL, Lib.hid ⟨rfl, rfl, rfl, Nat.le_refl _, fun _ _ _ => rfl⟩, Lib.hid rfl⟩
  case round =>
    obtain ⟨k, hk, rfl, HBU, HKP, HA⟩ := hrel
    have hszr : w2.heap.size ≤ wr.heap.size := HKP.out.size
    by_cases hlt : k < xs.length
    · obtain ⟨x, y, hxy⟩ : ∃ x y, xs[k] = (x, y) := ⟨_, _, rfl⟩
      have hxy2 : x < 18446744073709551616 ∧ y < 18446744073709551616 := by have := HXN.out _ (List.getElem_mem hlt); rw [hxy] at this; exact this
      obtain ⟨b0, o0, hbo, hcl⟩ := HRD.out.at (by rw [flat_length encE 2 encE_length]; omega)
      have hbo2 : b0 = g ∧ o0 = 0 := by simp at hbo; exact ⟨hbo.1.symm, hbo.2.symm⟩
      obtain ⟨rfl, rfl⟩ := hbo2
      have q0 : wr.cell? ⟨b0, k * 2, none⟩ = some (.int .u64 (x : Int)) := by
        rw [HKP.out.cell (p := ⟨b0, k * 2, none⟩) hg2 (by show b0 ≠ _; omega)]
        have := hcl (k * 2 + 0) (.int .u64 (x : Int)) (by rw [flat_get encE 2 encE_length xs k hlt 0 (by decide), hxy]; rfl)
        rw [Nat.zero_add, Nat.add_zero] at this; exact this
      have q1 : wr.cell? ⟨b0, k * 2 + 1, none⟩ = some (.int .u64 (y : Int)) := by
        rw [HKP.out.cell (p := ⟨b0, k * 2 + 1, none⟩) hg2 (by show b0 ≠ _; omega)]
        have := hcl (k * 2 + 1) (.int .u64 (y : Int)) (by rw [flat_get encE 2 encE_length xs k hlt 1 (by decide), hxy]; rfl)
        rw [Nat.zero_add] at this; exact this
      have hbx0 : wr.cell? ⟨w.heap.size, 0, none⟩ = some (.bool big) := (HKP.out.cell (p := ⟨w.heap.size, 0, none⟩) (by show w.heap.size < _; omega) (by show w.heap.size ≠ _; omega)).trans HC.out.1
      have hbx1 : wr.cell? ⟨w.heap.size, 1, none⟩ = some (.bool wide) := (HKP.out.cell (p := ⟨w.heap.size, 1, none⟩) (by show w.heap.size < _; omega) (by show w.heap.size ≠ _; omega)).trans HC.out.2
      have hszw : w.heap.size < wr.heap.size := by omega
      have HXY := Lib.hid hxy
      clear hcl hbo hxy
      obtain ⟨es, hes⟩ : ∃ es, es = entL big wide (x, y) := ⟨_, rfl⟩
      obtain ⟨fe, hfe⟩ : ∃ fe, fe = entFit wide (x, y) := ⟨_, rfl⟩
      have HREC := Lib.hid (fun (b1 b2 c1 c2 : Nat) (W : World) (h1 : W.heap[b1]? = some (.cells #[.int .i64 0, .int .i64 0] 3 (0, 0))) (h2 : W.heap[b2]? = some (.cells #[.int .u64 (x : Int), .int .u64 (y : Int)] 31 (0, 0))) => record2_any big wide x y hxy2.1 hxy2.2 b1 b2 c1 c2 W h1 h2)
      have hesl : es.length ≤ 16 := by rw [hes]; exact entL_length _ _ _
      rw [← hes, ← hfe] at HREC
      have HES := Lib.hid hes
      have HFE := Lib.hid hfe
      clear hes hfe
      cases fe
      · have HE := Lib.hid (show ok = false by
          rw [HOK.out]; unfold dynOk
          have : (l ++ [(0, 0)]).all (entFit wide) = false := by
            rw [List.all_eq_false]
            exact ⟨xs[k], by rw [← HX.out]; exact List.getElem_mem hlt, by rw [HXY.out, ← HFE.out]; simp⟩
          rw [this]; rfl)
        go_wp2_with (first
          | (go_at_call 18; refine (HREC.out (wr.heap.size + 1) (wr.heap.size + 2) _ _ _ (by rw [heap_past _ _ _ (by simp), heap_at _ _ _ (by simp)]) (by rw [heap_at _ _ _ (by simp)])).mono ?_; rintro e wq ⟨rfl, hbq⟩))
        go_ret2
        refine ⟨by rw [HRS.out, HE.out]; rfl, ?_⟩
        have b1 : Below w.heap.size w w2 := (((Below.refl _ _).alloc (Nat.le_refl _) _).alloc (by simp) _).trans (HB2.out.mono (by omega))
        have b2 : Below w.heap.size w2 wr := HKP.out.below (by omega) (by omega)
        exact (b1.trans b2).trans (((((Below.refl _ _).alloc (by omega) _).alloc (by simp; omega) _).alloc (by simp; omega) _).trans (hbq.mono (by simp; omega)))
      · have htk : xs.take (k + 1) = xs.take k ++ [(x, y)] := by rw [List.take_add_one, List.getElem?_eq_getElem hlt, HXY.out]; rfl
        have hlen : ((xs.take k).flatMap (entL big wide)).length ≤ 1616 := by
          have := flat_le (entL big wide) 16 (entL_length big wide) (xs.take k)
          have h2 : (xs.take k).length ≤ 101 := by rw [List.length_take]; omega
          omega
        have HTK := Lib.hid htk
        clear htk
        go_wp2_with (first
          | (go_at_call 18; refine (HREC.out (wr.heap.size + 1) (wr.heap.size + 2) _ _ _ (by rw [heap_past _ _ _ (by simp), heap_at _ _ _ (by simp)]) (by rw [heap_at _ _ _ (by simp)])).mono ?_; rintro e wq ⟨rfl, hbq⟩)
          | (go_at_call 19; have hbr := Lib.hid (show Below wr.heap.size wr wq from ((((Below.refl _ _).alloc (Nat.le_refl _) _).alloc (by simp) _).alloc (by simp; omega) _).trans (hbq.mono (by simp; omega))); clear hbq; refine (writeString_b w2.heap.size (w.heap.size + 1) _ es wq (HBU.out.below hbr.out) (by omega)).mono ?_; rintro e wz ⟨rfl, hbld, hkp⟩))
        have q := HTK.out
        refine ⟨⟨k + 1, by omega, by go_num, Lib.hid ?_, Lib.hid ((HKP.out.trans (KeepB.of_below hbr.out hszr)).trans hkp), Lib.hid ?_⟩, by simp [intOf]; omega⟩
        · rw [q, List.flatMap_append]; simpa [← HES.out] using hbld
        · rw [q, List.all_append, HA.out]; simp [← HFE.out]
    · obtain rfl : k = xs.length := by omega
      clear hk
      rw [List.take_length] at HBU HA
      have hdl : dynL big wide l = xs.flatMap (entL big wide) := by unfold dynL; rw [HX.out]
      rw [← hdl] at HBU
      clear hdl
      have HOK2 := Lib.hid (show ok = l.all (fun e => decide (e.1 ≠ 0)) by rw [HOK.out]; unfold dynOk; rw [← HX.out, HA.out]; rfl)
      have HBB := Lib.hid ((((Below.refl w.heap.size w).alloc (Nat.le_refl _) (.cells #[.bool big, .bool wide] 27)).alloc (by simp) (.cells #[.pointer none, .slice none 0 0] 66)).trans ((HB2.out.mono (by omega)).trans (HKP.out.below (by omega) (by omega))))
      have HR2 := Lib.hid (HR.out.below HBB.out)
      have HBG := Lib.hid (show w.heap.size + 2 ≤ wr.heap.size by omega)
      clear hszr HKP HC HRD HB2 HX HXN
      go_wp2
      go_loopw [41] (fun i wq => ∃ k : Nat, k ≤ l.length ∧ i = .int .i64 k ∧ Hid (Below wr.heap.size wr wq) ∧ Hid (ok = (l.drop k).all (fun e => decide (e.1 ≠ 0)))) (fun i _ => l.length - (intOf i).toNat)
      case atStart => exact ⟨0, Nat.zero_le _, rfl, Lib.hid (Below.refl _ _), Lib.hid (by rw [HOK2.out]; rfl)⟩
      case round =>
        obtain ⟨k, hk, rfl, HBQ, HK⟩ := hrel
        by_cases hlt : k < l.length
        · omega
        · obtain rfl : k = 0 := by omega
          have HE := Lib.hid (show ok = true by rw [HK.out, HNL.out]; rfl)
          go_wp2_with (first
            | (go_at_call 22; refine (string_b w2.heap.size (w.heap.size + 1) _ _ (HBU.out.below HBQ.out)).mono ?_; rintro e wz ⟨rfl, hbz⟩))
          go_ret2
          exact ⟨by rw [HRS.out, HE.out]; rfl, (HBB.out.trans (HBQ.out.mono (by have := HBG.out; omega))).trans (hbz.mono (by omega))⟩
theorem putDynamic_none (big wide : Bool) (l : List (Nat × Nat)) (hl : l.length ≤ 100) (hns : ∀ e ∈ l, e.1 < 18446744073709551616 ∧ e.2 < 18446744073709551616) (hl0 : l.length = 0) (w : World)
    (hr : Rd w (none) (l.flatMap encE)) :
    Calls Tryd.prog 12 #[.agg #[.bool big, .bool wide], .slice (none) 0 0] w fun e w' => e = .returned (.tuple #[.string ⟨(if dynOk wide l then dynL big wide l else []).toArray⟩, .bool (dynOk wide l)]) ∧ Below w.heap.size w w' :=
  putDynamic_nil big wide l hl hns hl0 w 0 hr
end Go.Proofs.YtcfbdnlbgcoicaaDoor

/- Contracts over this translation: dynrec.PutDynamic. -/
import Derived.Test.YtcfbdnlbgcoicaaDoorClassC
import Derived.Test.YtcfbdnlbgcoicaaDoorBuilder2
import Derived.Laws.AppendOwnNone
namespace Go.Proofs.YtcfbdnlbgcoicaaDoor
set_option linter.unusedVariables false
set_option linter.unusedSimpArgs false
open Go.RowKit

def encE (e : Nat × Nat) : List Value := [.int .u64 (e.1 : Int), .int .u64 (e.2 : Int)]
theorem encE_length (e : Nat × Nat) : (encE e).length = 2 := rfl
theorem encE_one (l : List (Nat × Nat)) : ∀ u ∈ l.flatMap encE, u.oneCell' = true := by
  intro u hu
  obtain ⟨e, _, h⟩ := List.mem_flatMap.1 hu
  simp [encE] at h
  rcases h with rfl | rfl <;> rfl
theorem Tryd.infoEntry : (Tryd.prog.info? 51).map (fun i => (i.zero, i.size, i.bytes)) = some (some (.agg #[.int .u64 0, .int .u64 0]), 2, 16) := by kernel_rfl
/-- An entry's bytes. -/
def entL (big wide : Bool) (e : Nat × Nat) : List UInt8 := recS big wide [0, 0] [e.1, e.2]
def entFit (wide : Bool) (e : Nat × Nat) : Bool := allFit ([0, 0].map (szOf wide)) [e.1, e.2]
def dynOk (wide : Bool) (l : List (Nat × Nat)) : Bool := (l ++ [(0, 0)]).all (entFit wide) && l.all (fun e => decide (e.1 ≠ 0))
def dynL (big wide : Bool) (l : List (Nat × Nat)) : List UInt8 := (l ++ [(0, 0)]).flatMap (entL big wide)
theorem entL_length (big wide : Bool) (e : Nat × Nat) : (entL big wide e).length ≤ 16 := by
  unfold entL recS
  split
  · have := fieldsL_le big ([0, 0].map (szOf wide)) [e.1, e.2] (by cases wide <;> decide)
    simpa using this
  · simp
theorem flat_le {α : Type} (f : α → List UInt8) (m : Nat) (hf : ∀ x, (f x).length ≤ m) (l : List α) : (l.flatMap f).length ≤ m * l.length := by
  induction l with
  | nil => simp
  | cons x r ih =>
    have h := hf x
    rw [List.flatMap_cons, List.length_append, List.length_cons, Nat.mul_succ]
    omega
theorem lt_of_own {w : World} {base : Nat} {e : TypeId} {size n : Nat} {a : Option Addr} {m c : Nat} {cs : List Value} (h : w.ownsRow base e size (.slice a m c) n cs) (hn : 0 < n) : ∃ b, a = some ⟨b, 0, none⟩ ∧ base ≤ b ∧ b < w.heap.size := by
  have h' := h
  obtain ⟨hl, ⟨_, h0⟩ | ⟨g, cap, cur, hv, hg, hgc, _⟩⟩ := h
  · omega
  · have e : a = some ⟨g, 0, none⟩ := by injection hv
    refine ⟨g, e, hg, ?_⟩
    rcases Nat.lt_or_ge g w.heap.size with hh | hh
    · exact hh
    · rw [Array.getElem?_eq_none hh] at hgc; cases hgc

/-- One record of two words. -/
theorem record2_any (big wide : Bool) (x y : Nat) (hx : x < 18446744073709551616) (hy : y < 18446744073709551616) (b1 b2 c1 c2 : Nat) (w : World)
    (h1 : w.heap[b1]? = some (.cells #[.int .i64 0, .int .i64 0] 3 (0, 0))) (h2 : w.heap[b2]? = some (.cells #[.int .u64 (x : Int), .int .u64 (y : Int)] 31 (0, 0))) :
    Calls Tryd.prog 18 #[.agg #[.bool big, .bool wide], .slice (some ⟨b1, 0, none⟩) 2 c1, .slice (some ⟨b2, 0, none⟩) 2 c2] w fun e w' => e = .returned (.tuple #[.string ⟨(entL big wide (x, y)).toArray⟩, .bool (entFit wide (x, y))]) ∧ Below w.heap.size w w' := by
  refine record_any big wide [0, 0] [x, y] (by simp) (by simp [hx, hy]) rfl (by simp) (some ⟨b1, 0, none⟩) (some ⟨b2, 0, none⟩) c1 c2 w (.inr ⟨b1, 0, rfl, fun j u hj => ?_⟩) (.inr ⟨b2, 0, rfl, fun j u hj => ?_⟩)
  · rw [Lib.cell_of_heap h1, Nat.zero_add]; simpa [encI] using hj
  · rw [Lib.cell_of_heap h2, Nat.zero_add]; simpa [encU] using hj

set_option maxHeartbeats 8000000 in
theorem putDynamic_some (big wide : Bool) (l : List (Nat × Nat)) (hl : l.length ≤ 100) (hns : ∀ e ∈ l, e.1 < 18446744073709551616 ∧ e.2 < 18446744073709551616) (ad : Addr) (c : Nat) (w : World)
    (hr : Rd w (some ad) (l.flatMap encE)) :
    Calls Tryd.prog 12 #[.agg #[.bool big, .bool wide], .slice (some ad) l.length c] w fun e w' => e = .returned (.tuple #[.string ⟨(if dynOk wide l then dynL big wide l else []).toArray⟩, .bool (dynOk wide l)]) ∧ Below w.heap.size w w' := by
  obtain ⟨i0, hi, hz0, hz1, hz2⟩ := info_parts Tryd.infoEntry
  obtain ⟨rs, hrs⟩ : ∃ rs, rs = (if dynOk wide l = true then dynL big wide l else []) := ⟨_, rfl⟩
  obtain ⟨ok, hok⟩ : ∃ ok, ok = dynOk wide l := ⟨_, rfl⟩
  rw [← hrs, ← hok]
  rw [← hok] at hrs
  have HRS := Lib.hid hrs
  have HOK := Lib.hid hok
  have HR := Lib.hid hr
  have HN := Lib.hid hns
  clear hrs hok hr hns
  have HFL := Lib.hid (flat_length encE 2 encE_length l)
  have hK := Lib.hid (World.ownsRow_nil ((w.alloc (.cells #[.bool big, .bool wide] 27)).alloc (.cells #[.pointer none, .slice none 0 0] 66)) (w.heap.size + 2) 51 2)
  go_enter Tryd.func12, Tryd.ntmps12
  go_wp2_with (first
    | (at_builtin; have tok1 := hK.out; clear hK; refine wpList_append_own _ rfl _ _ 47 rfl (w.heap.size + 2) 51 i0 (.agg #[.int .u64 0, .int .u64 0]) 2 16 Tryd.underlying47 hi hz0 hz1 hz2 rfl (by decide) _ _ _ rfl tok1 ad l.length c (l.flatMap encE) rfl HFL.out ?c1 ?c2 ?c3 ?c4 ?c5 ?_))
  case c1 => intro j u hj; have := ((HR.out.alloc (.cells #[.bool big, .bool wide] 27)).alloc (.cells #[.pointer none, .slice none 0 0] 66)).news j u hj; exact this
  case c2 => exact encE_one l
  case c3 => unfold maxLen; omega
  case c4 => omega
  case c5 => simp
  intro v1 w1 hown1 hgrow1 hn1
  clear hn1
  try simp only [Nat.zero_add, List.nil_append] at hown1
  have hb1 : Below (w.heap.size + 2) ((w.alloc (.cells #[.bool big, .bool wide] 27)).alloc (.cells #[.pointer none, .slice none 0 0] 66)) w1 := (Below.refl _ _).grown hgrow1 (by simp) (fun k hk => by cases hk)
  have HO1 := Lib.hid hown1
  have HB1 := Lib.hid hb1
  clear hown1 hgrow1 hb1
  have hsz1 : w.heap.size + 2 ≤ w1.heap.size := by have := HB1.out.size; simpa using this
  go_wp2_with (first
    | (at_builtin; refine wpList_append_own _ rfl _ _ 47 rfl (w.heap.size + 2) 51 i0 (.agg #[.int .u64 0, .int .u64 0]) 2 16 Tryd.underlying47 hi hz0 hz1 hz2 rfl (by decide) _ _ _ rfl (HO1.out.alloc _) ⟨w1.heap.size, 0, none⟩ 1 1 [.int .u64 0, .int .u64 0] rfl rfl ?c1 ?c2 ?c3 ?c4 ?c5 ?_))
  case c1 => exact new_cells _ _ [_, _] _ (by simp)
  case c2 => intro u hu; simp at hu; subst hu; rfl
  case c3 => unfold maxLen; omega
  case c4 => omega
  case c5 => simp; omega
  intro v2 w2 hown2 hgrow2 hn2
  clear hn2 hi hz0 hz1 hz2
  obtain ⟨xs, hxs⟩ : ∃ xs, xs = l ++ [(0, 0)] := ⟨_, rfl⟩
  have hxl : xs.length = l.length + 1 := by rw [hxs]; simp
  have hcs : l.flatMap encE ++ [.int .u64 0, .int .u64 0] = xs.flatMap encE := by rw [hxs]; simp [encE]
  rw [hcs, ← hxl] at hown2
  obtain ⟨va, vc, rfl⟩ := own_slice hown2
  obtain ⟨g, hga, hg1, hg2⟩ := lt_of_own hown2 (by omega)
  subst hga
  have hrd := Rd.of_own hown2
  have hb2 : Below (w.heap.size + 2) w1 w2 := below_own ((Below.refl _ _).alloc hsz1 _) HO1.out hgrow2 (by simp; omega) (Nat.le_refl _)
  have HX := Lib.hid hxs
  have HXN := Lib.hid (show ∀ e ∈ xs, e.1 < 18446744073709551616 ∧ e.2 < 18446744073709551616 by
    intro e he; rw [hxs] at he
    rcases List.mem_append.1 he with h | h
    · exact HN.out e h
    · simp at h; subst h; exact ⟨by decide, by decide⟩)
  have HRD := Lib.hid hrd
  have HB2 := Lib.hid (HB1.out.trans hb2)
  have hxl2 : xs.length ≤ 101 := by omega
  have HXL := Lib.hid hxl
  have hsz2 : w.heap.size + 2 ≤ w2.heap.size := by have := hb2.size; omega
  have hbx0 : w2.cell? ⟨w.heap.size, 0, none⟩ = some (.bool big) := (HB2.out.cell (p := ⟨w.heap.size, 0, none⟩) (by simp)).trans (by rw [World.cell?_alloc_past _ _ _ (by simp), World.cell?_alloc_new]; rfl)
  have hbx1 : w2.cell? ⟨w.heap.size, 1, none⟩ = some (.bool wide) := (HB2.out.cell (p := ⟨w.heap.size, 1, none⟩) (by simp)).trans (by rw [World.cell?_alloc_past _ _ _ (by simp), World.cell?_alloc_new]; rfl)
  have hbl : w2.heap[w.heap.size + 1]? = some (.cells #[.pointer none, .slice none 0 0] 66 (0, 0)) := by
    rw [HB2.out.block _ (by omega)]
    show ((w.heap.push _).push _)[w.heap.size + 1]? = _
    rw [Array.getElem?_push, if_pos (by simp)]
  have HBL := Lib.hid (Bld.fresh hbl (by omega) (Nat.le_refl _))
  have HC := Lib.hid (And.intro hbx0 hbx1)
  clear hown2 hgrow2 hxs hcs hrd hb2 hxl hbx0 hbx1 hbl
  go_wp2
  go_loopw [19] (fun i wr => ∃ k : Nat, k ≤ xs.length ∧ i = .int .i64 k ∧ Hid (Bld w2.heap.size (w.heap.size + 1) ((xs.take k).flatMap (entL big wide)) wr) ∧ Hid (KeepB w2.heap.size (w.heap.size + 1) w2 wr) ∧ Hid ((xs.take k).all (entFit wide) = true)) (fun i _ => xs.length - (intOf i).toNat)
  case atStart => exact ⟨0, Nat.zero_le _, rfl, HBL, Lib.hid ⟨rfl, rfl, rfl, Nat.le_refl _, fun _ _ _ => rfl⟩, Lib.hid rfl⟩
  case round =>
    obtain ⟨k, hk, rfl, HBU, HKP, HA⟩ := hrel
    have hszr : w2.heap.size ≤ wr.heap.size := HKP.out.size
    by_cases hlt : k < xs.length
    · obtain ⟨x, y, hxy⟩ : ∃ x y, xs[k] = (x, y) := ⟨_, _, rfl⟩
      have hxy2 : x < 18446744073709551616 ∧ y < 18446744073709551616 := by have := HXN.out _ (List.getElem_mem hlt); rw [hxy] at this; exact this
      obtain ⟨b0, o0, hbo, hcl⟩ := HRD.out.at (by rw [flat_length encE 2 encE_length]; omega)
      have hbo2 : b0 = g ∧ o0 = 0 := by simp at hbo; exact ⟨hbo.1.symm, hbo.2.symm⟩
      obtain ⟨rfl, rfl⟩ := hbo2
      have q0 : wr.cell? ⟨b0, k * 2, none⟩ = some (.int .u64 (x : Int)) := by
        rw [HKP.out.cell (p := ⟨b0, k * 2, none⟩) hg2 (by show b0 ≠ _; omega)]
        have := hcl (k * 2 + 0) (.int .u64 (x : Int)) (by rw [flat_get encE 2 encE_length xs k hlt 0 (by decide), hxy]; rfl)
        rw [Nat.zero_add, Nat.add_zero] at this; exact this
      have q1 : wr.cell? ⟨b0, k * 2 + 1, none⟩ = some (.int .u64 (y : Int)) := by
        rw [HKP.out.cell (p := ⟨b0, k * 2 + 1, none⟩) hg2 (by show b0 ≠ _; omega)]
        have := hcl (k * 2 + 1) (.int .u64 (y : Int)) (by rw [flat_get encE 2 encE_length xs k hlt 1 (by decide), hxy]; rfl)
        rw [Nat.zero_add] at this; exact this
      have hbx0 : wr.cell? ⟨w.heap.size, 0, none⟩ = some (.bool big) := (HKP.out.cell (p := ⟨w.heap.size, 0, none⟩) (by show w.heap.size < _; omega) (by show w.heap.size ≠ _; omega)).trans HC.out.1
      have hbx1 : wr.cell? ⟨w.heap.size, 1, none⟩ = some (.bool wide) := (HKP.out.cell (p := ⟨w.heap.size, 1, none⟩) (by show w.heap.size < _; omega) (by show w.heap.size ≠ _; omega)).trans HC.out.2
      have hszw : w.heap.size < wr.heap.size := by omega
      have HXY := Lib.hid hxy
      clear hcl hbo hxy
      obtain ⟨es, hes⟩ : ∃ es, es = entL big wide (x, y) := ⟨_, rfl⟩
      obtain ⟨fe, hfe⟩ : ∃ fe, fe = entFit wide (x, y) := ⟨_, rfl⟩
      have HREC := Lib.hid (fun (b1 b2 c1 c2 : Nat) (W : World) (h1 : W.heap[b1]? = some (.cells #[.int .i64 0, .int .i64 0] 3 (0, 0))) (h2 : W.heap[b2]? = some (.cells #[.int .u64 (x : Int), .int .u64 (y : Int)] 31 (0, 0))) => record2_any big wide x y hxy2.1 hxy2.2 b1 b2 c1 c2 W h1 h2)
      have hesl : es.length ≤ 16 := by rw [hes]; exact entL_length _ _ _
      rw [← hes, ← hfe] at HREC
      have HES := Lib.hid hes
      have HFE := Lib.hid hfe
      clear hes hfe
      cases fe
      · have HE := Lib.hid (show ok = false by
          rw [HOK.out]; unfold dynOk
          have : (l ++ [(0, 0)]).all (entFit wide) = false := by
            rw [List.all_eq_false]
            exact ⟨xs[k], by rw [← HX.out]; exact List.getElem_mem hlt, by rw [HXY.out, ← HFE.out]; simp⟩
          rw [this]; rfl)
        go_wp2_with (first
          | (go_at_call 18; refine (HREC.out (wr.heap.size + 1) (wr.heap.size + 2) _ _ _ (by rw [heap_past _ _ _ (by simp), heap_at _ _ _ (by simp)]) (by rw [heap_at _ _ _ (by simp)])).mono ?_; rintro e wq ⟨rfl, hbq⟩))
        go_ret2
        refine ⟨by rw [HRS.out, HE.out]; rfl, ?_⟩
        have b1 : Below w.heap.size w w2 := (((Below.refl _ _).alloc (Nat.le_refl _) _).alloc (by simp) _).trans (HB2.out.mono (by omega))
        have b2 : Below w.heap.size w2 wr := HKP.out.below (by omega) (by omega)
        exact (b1.trans b2).trans (((((Below.refl _ _).alloc (by omega) _).alloc (by simp; omega) _).alloc (by simp; omega) _).trans (hbq.mono (by simp; omega)))
      · have htk : xs.take (k + 1) = xs.take k ++ [(x, y)] := by rw [List.take_add_one, List.getElem?_eq_getElem hlt, HXY.out]; rfl
        have hlen : ((xs.take k).flatMap (entL big wide)).length ≤ 1616 := by
          have := flat_le (entL big wide) 16 (entL_length big wide) (xs.take k)
          have h2 : (xs.take k).length ≤ 101 := by rw [List.length_take]; omega
          omega
        have HTK := Lib.hid htk
        clear htk
        go_wp2_with (first
          | (go_at_call 18; refine (HREC.out (wr.heap.size + 1) (wr.heap.size + 2) _ _ _ (by rw [heap_past _ _ _ (by simp), heap_at _ _ _ (by simp)]) (by rw [heap_at _ _ _ (by simp)])).mono ?_; rintro e wq ⟨rfl, hbq⟩)
          | (go_at_call 19; have hbr := Lib.hid (show Below wr.heap.size wr wq from ((((Below.refl _ _).alloc (Nat.le_refl _) _).alloc (by simp) _).alloc (by simp; omega) _).trans (hbq.mono (by simp; omega))); clear hbq; refine (writeString_b w2.heap.size (w.heap.size + 1) _ es wq (HBU.out.below hbr.out) (by omega)).mono ?_; rintro e wz ⟨rfl, hbld, hkp⟩))
        have q := HTK.out
        refine ⟨⟨k + 1, by omega, by go_num, Lib.hid ?_, Lib.hid ((HKP.out.trans (KeepB.of_below hbr.out hszr)).trans hkp), Lib.hid ?_⟩, by simp [intOf]; omega⟩
        · rw [q, List.flatMap_append]; simpa [← HES.out] using hbld
        · rw [q, List.all_append, HA.out]; simp [← HFE.out]
    · obtain rfl : k = xs.length := by omega
      clear hk
      rw [List.take_length] at HBU HA
      have hdl : dynL big wide l = xs.flatMap (entL big wide) := by unfold dynL; rw [HX.out]
      rw [← hdl] at HBU
      clear hdl
      have HOK2 := Lib.hid (show ok = l.all (fun e => decide (e.1 ≠ 0)) by rw [HOK.out]; unfold dynOk; rw [← HX.out, HA.out]; rfl)
      have HBB := Lib.hid ((((Below.refl w.heap.size w).alloc (Nat.le_refl _) (.cells #[.bool big, .bool wide] 27)).alloc (by simp) (.cells #[.pointer none, .slice none 0 0] 66)).trans ((HB2.out.mono (by omega)).trans (HKP.out.below (by omega) (by omega))))
      have HR2 := Lib.hid (HR.out.below HBB.out)
      have HBG := Lib.hid (show w.heap.size + 2 ≤ wr.heap.size by omega)
      clear hszr HKP HC HRD HB2 HX HXN
      go_wp2
      go_loopw [41] (fun i wq => ∃ k : Nat, k ≤ l.length ∧ i = .int .i64 k ∧ Hid (Below wr.heap.size wr wq) ∧ Hid (ok = (l.drop k).all (fun e => decide (e.1 ≠ 0)))) (fun i _ => l.length - (intOf i).toNat)
      case atStart => exact ⟨0, Nat.zero_le _, rfl, Lib.hid (Below.refl _ _), Lib.hid (by rw [HOK2.out]; rfl)⟩
      case round =>
        obtain ⟨k, hk, rfl, HBQ, HK⟩ := hrel
        by_cases hlt : k < l.length
        · obtain ⟨x, y, hxy⟩ : ∃ x y, l[k] = (x, y) := ⟨_, _, rfl⟩
          obtain ⟨b0, o0, hbo, hcl⟩ := (HR2.out.below HBQ.out).at (by rw [flat_length encE 2 encE_length]; omega)
          obtain rfl := Option.some.inj hbo
          have q0 := hcl (k * 2 + 0) (.int .u64 (x : Int)) (by rw [flat_get encE 2 encE_length l k hlt 0 (by decide), hxy]; rfl)
          have q1 := hcl (k * 2 + 1) (.int .u64 (y : Int)) (by rw [flat_get encE 2 encE_length l k hlt 1 (by decide), hxy]; rfl)
          rw [Nat.add_zero] at q0
          rw [← Nat.add_assoc] at q1
          have hdk : l.drop k = (x, y) :: l.drop (k + 1) := by rw [← hxy]; exact List.drop_eq_getElem_cons hlt
          rw [hdk] at HK
          clear hcl hxy hdk
          have HBZ := Lib.hid (HBB.out.trans (HBQ.out.mono (by have := HBG.out; omega)))
          by_cases hx0 : x = 0
          · subst hx0
            have HE := Lib.hid (show ok = false by rw [HK.out]; rfl)
            go_wp2
            go_ret2
            exact ⟨by rw [HRS.out, HE.out]; rfl, HBZ.out.alloc (by have := HBZ.out.size; omega) _⟩
          · have HE := Lib.hid (show ok = (l.drop (k + 1)).all (fun e => decide (e.1 ≠ 0)) by rw [HK.out]; simp [hx0])
            go_wp2
            exact ⟨⟨k + 1, by omega, by go_num, Lib.hid (HBQ.out.alloc HBQ.out.size _), HE⟩, by simp [intOf]; omega⟩
        · obtain rfl : k = l.length := by omega
          have HE := Lib.hid (show ok = true by rw [HK.out]; simp)
          go_wp2_with (first
            | (go_at_call 22; refine (string_b w2.heap.size (w.heap.size + 1) _ _ (HBU.out.below HBQ.out)).mono ?_; rintro e wz ⟨rfl, hbz⟩))
          go_ret2
          exact ⟨by rw [HRS.out, HE.out]; rfl, (HBB.out.trans (HBQ.out.mono (by have := HBG.out; omega))).trans (hbz.mono (by omega))⟩
end Go.Proofs.YtcfbdnlbgcoicaaDoor

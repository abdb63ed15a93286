/- Contracts over this translation: dynrec.pad, dynrec.PutNotes. -/
import Derived.Test.YtcfbdnlbgcoicaaDoorDynC
namespace Go.Proofs.YtcfbdnlbgcoicaaDoor
set_option linter.unusedVariables false
set_option linter.unusedSimpArgs false
open Go.RowKit

/-- The noughts behind so many bytes. -/
def padZ (n : Nat) : List UInt8 := List.replicate ((4 - n % 4) % 4) 0
theorem padZ_length (n : Nat) : (padZ n).length = (4 - n % 4) % 4 := by simp [padZ]
theorem repeat_nought (d : Nat) (hd : d ≤ 100) (w : World) :
    Calls Tryd.prog 38 #[.string ⟨#[0]⟩, .int .i64 d] w fun e w' => e = .returned (.string ⟨(List.replicate d 0).toArray⟩) ∧ Below w.heap.size w w' := by
  have h := Tryd.strings_Repeat ⟨#[0]⟩ d w (by omega) (by rw [show (⟨#[0]⟩ : ByteArray).size = 1 from rfl]; omega)
  have e : ∀ m, Lib.repeatL [(0 : UInt8)] m = List.replicate m 0 := by
    intro m
    induction m with
    | zero => rfl
    | succ n ih => rw [List.replicate_succ, ← ih]; rfl
  rw [show (⟨#[0]⟩ : ByteArray).data.toList = [0] from rfl, e] at h
  exact h
theorem pad_any (n : Nat) (hn : n ≤ 9223372036854775807) (w : World) :
    Calls Tryd.prog 20 #[.int .i64 n] w fun e w' => e = .returned (.string ⟨(padZ n).toArray⟩) ∧ Below w.heap.size w w' := by
  obtain ⟨d, hd⟩ : ∃ d, d = (4 - n % 4) % 4 := ⟨_, rfl⟩
  have hd4 : d ≤ 3 := by omega
  unfold padZ
  rw [← hd]
  obtain ⟨r, hr⟩ : ∃ r, r = n % 4 := ⟨_, rfl⟩
  have hr4 : r ≤ 3 := by omega
  have t1 : (n : Int).tmod 4 = (r : Int) := by rw [Int.tmod_eq_emod_of_nonneg (by omega)]; omega
  have t2 : ((4 : Int) - (r : Int)).tmod 4 = (d : Int) := by rw [Int.tmod_eq_emod_of_nonneg (by omega)]; omega
  clear hd hr
  go_enter Tryd.func20, Tryd.ntmps20
  go_wp2_with (first | (go_at_call 38; refine (repeat_nought d (by omega) _).mono ?_; rintro e w' ⟨rfl, hb⟩))
  go_ret
  exact ⟨rfl, hb⟩

theorem pair_below {w w' : World} {p q : Addr} {x y : Value} (h : w.cell? p = some x ∧ w.cell? q = some y) (hb : Below w.heap.size w w') : w'.cell? p = some x ∧ w'.cell? q = some y :=
  ⟨by rw [hb.cell (cell_lt h.1)]; exact h.1, by rw [hb.cell (cell_lt h.2)]; exact h.2⟩
theorem ba_app (a b : List UInt8) : (⟨a.toArray⟩ : ByteArray) ++ ⟨b.toArray⟩ = ⟨(a ++ b).toArray⟩ := by
  apply ByteArray.ext
  simp
structure NoteD where
  ty : Nat
  name : List UInt8
  desc : List UInt8
def encN (e : NoteD) : List Value := [.int .u64 (e.ty : Int), .string ⟨e.name.toArray⟩, .string ⟨e.desc.toArray⟩]
theorem encN_length (e : NoteD) : (encN e).length = 3 := rfl
def noteH (e : NoteD) : List Nat := [e.name.length, e.desc.length, e.ty]
def noteFit (wide : Bool) (e : NoteD) : Bool := allFit ([4, 4, 4].map (szOf wide)) (noteH e)
def noteL (big wide : Bool) (e : NoteD) : List UInt8 := recS big wide [4, 4, 4] (noteH e) ++ e.name ++ padZ e.name.length ++ e.desc ++ padZ e.desc.length
theorem record3_any (big wide : Bool) (x y z : Nat) (hx : x < 18446744073709551616) (hy : y < 18446744073709551616) (hz : z < 18446744073709551616) (b1 b2 c1 c2 : Nat) (w : World)
    (h1 : w.heap[b1]? = some (.cells #[.int .i64 4, .int .i64 4, .int .i64 4] 3 (0, 0))) (h2 : w.heap[b2]? = some (.cells #[.int .u64 (x : Int), .int .u64 (y : Int), .int .u64 (z : Int)] 31 (0, 0))) :
    Calls Tryd.prog 18 #[.agg #[.bool big, .bool wide], .slice (some ⟨b1, 0, none⟩) 3 c1, .slice (some ⟨b2, 0, none⟩) 3 c2] w fun e w' => e = .returned (.tuple #[.string ⟨(recS big wide [4, 4, 4] [x, y, z]).toArray⟩, .bool (allFit ([4, 4, 4].map (szOf wide)) [x, y, z])]) ∧ Below w.heap.size w w' := by
  refine record_any big wide [4, 4, 4] [x, y, z] (by simp) (by simp [hx, hy, hz]) rfl (by simp) (some ⟨b1, 0, none⟩) (some ⟨b2, 0, none⟩) c1 c2 w (.inr ⟨b1, 0, rfl, fun j u hj => ?_⟩) (.inr ⟨b2, 0, rfl, fun j u hj => ?_⟩)
  · rw [Lib.cell_of_heap h1, Nat.zero_add]; simpa [encI] using hj
  · rw [Lib.cell_of_heap h2, Nat.zero_add]; simpa [encU] using hj

set_option maxHeartbeats 8000000 in
theorem putNotes_any (big wide : Bool) (l : List NoteD) (hl : l.length ≤ 1000) (hns : ∀ e ∈ l, e.ty < 18446744073709551616 ∧ e.name.length < 1000000 ∧ e.desc.length < 1000000) (htot : (l.flatMap (noteL big wide)).length ≤ 1000000) (a : Option Addr) (c : Nat) (w : World)
    (hr : Rd w a (l.flatMap encN)) :
    Calls Tryd.prog 9 #[.agg #[.bool big, .bool wide], .slice a l.length c] w fun e w' => e = .returned (.tuple #[.string ⟨(if l.all (noteFit wide) then l.flatMap (noteL big wide) else []).toArray⟩, .bool (l.all (noteFit wide))]) ∧ Below w.heap.size w w' := by
  obtain ⟨ok, hok⟩ : ∃ ok, ok = l.all (noteFit wide) := ⟨_, rfl⟩
  rw [← hok]
  obtain ⟨rs, hrs⟩ : ∃ rs, rs = (if ok = true then l.flatMap (noteL big wide) else []) := ⟨_, rfl⟩
  rw [← hrs]
  have HRS := Lib.hid hrs
  have HOK := Lib.hid hok
  have HR := Lib.hid hr
  have HN := Lib.hid hns
  have HT := Lib.hid htot
  clear hrs hok hr hns htot
  have HBL0 := Lib.hid (Bld.fresh (w := (w.alloc (.cells #[.bool big, .bool wide] 27)).alloc (.cells #[.pointer none, .slice none 0 0] 66)) (b := w.heap.size + 1) (Bs := w.heap.size + 2) (heap_at _ _ _ (by simp)) (by omega) (by simp))
  go_enter Tryd.func9, Tryd.ntmps9
  go_wp2
  go_loopw [13] (fun i wr => ∃ k : Nat, k ≤ l.length ∧ i = .int .i64 k ∧ Hid (Bld (w.heap.size + 2) (w.heap.size + 1) ((l.take k).flatMap (noteL big wide)) wr) ∧ Hid (Below (w.heap.size + 1) (w.alloc (.cells #[.bool big, .bool wide] 27)) wr) ∧ Hid ((l.take k).all (noteFit wide) = true)) (fun i _ => l.length - (intOf i).toNat)
  case atStart => exact ⟨0, Nat.zero_le _, rfl, HBL0, Lib.hid ((Below.refl _ _).alloc (by simp) _), Lib.hid rfl⟩
  case round =>
    obtain ⟨k, hk, rfl, HBU, HB, HA⟩ := hrel
    have hszr : w.heap.size + 2 ≤ wr.heap.size := HBU.out.2.1
    by_cases hlt : k < l.length
    · obtain ⟨⟨ty, nm, ds⟩, hxy⟩ : ∃ x, l[k] = x := ⟨_, rfl⟩
      have hx2 : ty < 18446744073709551616 ∧ nm.length < 1000000 ∧ ds.length < 1000000 := by have := HN.out _ (List.getElem_mem hlt); rw [hxy] at this; exact this
      obtain ⟨b0, o0, hbo, hcl⟩ := ((HR.out.alloc _).below (HB.out.mono (by simp))).at (by rw [flat_length encN 3 encN_length]; omega)
      subst hbo
      have q0 := hcl (k * 3 + 0) (.int .u64 (ty : Int)) (by rw [flat_get encN 3 encN_length l k hlt 0 (by decide), hxy]; rfl)
      have q1 := hcl (k * 3 + 1) (.string ⟨nm.toArray⟩) (by rw [flat_get encN 3 encN_length l k hlt 1 (by decide), hxy]; rfl)
      have q2 := hcl (k * 3 + 2) (.string ⟨ds.toArray⟩) (by rw [flat_get encN 3 encN_length l k hlt 2 (by decide), hxy]; rfl)
      rw [Nat.add_zero] at q0
      rw [← Nat.add_assoc] at q1 q2
      have hbx0 : wr.cell? ⟨w.heap.size, 0, none⟩ = some (.bool big) := (HB.out.cell (p := ⟨w.heap.size, 0, none⟩) (by simp)).trans (by rw [World.cell?_alloc_new]; rfl)
      have hbx1 : wr.cell? ⟨w.heap.size, 1, none⟩ = some (.bool wide) := (HB.out.cell (p := ⟨w.heap.size, 1, none⟩) (by simp)).trans (by rw [World.cell?_alloc_new]; rfl)
      have HXY := Lib.hid hxy
      clear hcl hxy
      have n1 : (⟨nm.toArray⟩ : ByteArray).size = nm.length := rfl
      have n2 : (⟨ds.toArray⟩ : ByteArray).size = ds.length := rfl
      obtain ⟨es, hes⟩ : ∃ es, es = recS big wide [4, 4, 4] [nm.length, ds.length, ty] := ⟨_, rfl⟩
      obtain ⟨fe, hfe⟩ : ∃ fe, fe = allFit ([4, 4, 4].map (szOf wide)) [nm.length, ds.length, ty] := ⟨_, rfl⟩
      have HREC := Lib.hid (fun (b1 b2 c1 c2 : Nat) (W : World) h1 h2 => record3_any big wide nm.length ds.length ty (by omega) (by omega) hx2.1 b1 b2 c1 c2 W h1 h2)
      rw [← hes, ← hfe] at HREC
      have HES := Lib.hid hes
      have HFE := Lib.hid hfe
      clear hes hfe
      have hszw : w.heap.size < wr.heap.size := by omega
      have hle : ((l.take k).flatMap (noteL big wide)).length + (es ++ nm ++ padZ nm.length ++ ds ++ padZ ds.length).length ≤ 1000000 := by
        have h1 : l.flatMap (noteL big wide) = (l.take k).flatMap (noteL big wide) ++ (noteL big wide l[k] ++ (l.drop (k + 1)).flatMap (noteL big wide)) := by
          conv => lhs; rw [← List.take_append_drop k l, List.flatMap_append, List.drop_eq_getElem_cons hlt, List.flatMap_cons]
        have h2 := HT.out
        rw [h1, List.length_append, List.length_append, HXY.out] at h2
        have h3 : noteL big wide ⟨ty, nm, ds⟩ = es ++ nm ++ padZ nm.length ++ ds ++ padZ ds.length := by unfold noteL noteH; rw [HES.out]
        rw [h3] at h2
        omega
      have HLE := Lib.hid hle
      have hsum : es.length + nm.length + (padZ nm.length).length + ds.length + (padZ ds.length).length ≤ 1000000 := by simp only [List.length_append] at hle; omega
      have f1 : ¬ (9223372036854775807 < es.length + nm.length) := by omega
      have f2 : ¬ (9223372036854775807 < es.length + nm.length + (padZ nm.length).length) := by omega
      have f3 : ¬ (9223372036854775807 < es.length + nm.length + (padZ nm.length).length + ds.length) := by omega
      have f4 : ¬ (9223372036854775807 < es.length + nm.length + (padZ nm.length).length + ds.length + (padZ ds.length).length) := by omega
      clear hle hsum
      have HP := Lib.hid (fun W => pad_any nm.length (by omega) W)
      have HQ := Lib.hid (fun W => pad_any ds.length (by omega) W)
      go_wp2_with (first
        | (go_at_call 18; refine (HREC.out (wr.heap.size + 1) (wr.heap.size + 2) _ _ _ (by rw [heap_past _ _ _ (by simp), heap_at _ _ _ (by simp)]) (by rw [heap_at _ _ _ (by simp)])).mono ?_; rintro e wq ⟨rfl, hbq⟩))
      have xb : wq.heap[wr.heap.size]? = some (.cells #[.int .u64 (ty : Int), .string ⟨nm.toArray⟩, .string ⟨ds.toArray⟩] 34 (0, 0)) := by
        rw [hbq.block _ (by simp <;> omega), heap_past _ _ _ (by simp <;> omega), heap_past _ _ _ (by simp <;> omega), heap_at _ _ _ rfl]
      have HBU2 := Lib.hid ((HBU.out.below (((((Below.refl _ _).alloc (Nat.le_refl _) _).alloc (by simp <;> omega) _).alloc (by simp <;> omega) _).trans (hbq.mono (by simp <;> omega)))))
      have HBW := Lib.hid (show Below wr.heap.size wr wq from ((((Below.refl _ _).alloc (Nat.le_refl _) _).alloc (by simp <;> omega) _).alloc (by simp <;> omega) _).trans (hbq.mono (by simp <;> omega)))
      clear hbq
      have hc0 : wq.cell? ⟨wr.heap.size, 1, none⟩ = some (.string ⟨nm.toArray⟩) ∧ wq.cell? ⟨wr.heap.size, 2, none⟩ = some (.string ⟨ds.toArray⟩) := ⟨by rw [Lib.cell_of_heap xb]; rfl, by rw [Lib.cell_of_heap xb]; rfl⟩
      have XB := Lib.hid xb
      clear xb
      go_region_held3 (fun w' => w'.cell? ⟨wr.heap.size, 1, none⟩ = some (.string ⟨nm.toArray⟩) ∧ w'.cell? ⟨wr.heap.size, 2, none⟩ = some (.string ⟨ds.toArray⟩)) (first | exact hc0 | exact hc3 | exact hc2 | exact hc1)
        (first
          | (go_at_call 20; have hh := hb1; refine (HQ.out _).mono ?_; rintro e w2 ⟨rfl, hb2⟩; have hc2 := pair_below hc1 hb2)
          | (go_at_call 20; refine (HP.out _).mono ?_; rintro e w1 ⟨rfl, hb1⟩; have hc1 := pair_below (w := wq.drew) hc0 hb1)
          | (go_at_call 19; simp only [ByteArray.mk_append_mk]; have hbb := Lib.hid (show Below wq.heap.size wq w2 from (below_undrew hb1).trans (hb2.mono hb1.size)); refine (writeString_t (w.heap.size + 2) (w.heap.size + 1) _ _ w2 (HBU2.out.below hbb.out) (by have := HLE.out; omega)).mono ?_; rintro e w3 ⟨rfl, hbld, hkp, hty⟩; have xb3 := hty _ _ _ _ (show wr.heap.size ≠ w.heap.size + 1 by omega) (by decide) (blk_below XB.out hbb.out); have hc3 : w3.cell? ⟨wr.heap.size, 1, none⟩ = some (.string ⟨nm.toArray⟩) ∧ w3.cell? ⟨wr.heap.size, 2, none⟩ = some (.string ⟨ds.toArray⟩) := ⟨by rw [Lib.cell_of_heap xb3]; rfl, by rw [Lib.cell_of_heap xb3]; rfl⟩))
      have HBD := Lib.hid hbld
      have HKP := Lib.hid hkp
      clear hc0 hc1 hc2 hc3 xb3 hty hbld hkp hb1 hb2 f1 f2 f3 f4 q0 q1 q2 hbx0 hbx1
      have HB3 := Lib.hid (show Below (w.heap.size + 1) wr w3 from (HBW.out.mono (by omega)).trans ((hbb.out.mono (by have := HBW.out.size; omega)).trans (HKP.out.below (Nat.le_refl _) (by omega))))
      have hnl : noteL big wide l[k] = es ++ nm ++ padZ nm.length ++ ds ++ padZ ds.length := by rw [HXY.out]; unfold noteL noteH; rw [HES.out]
      have htk : l.take (k + 1) = l.take k ++ [l[k]] := by rw [List.take_add_one, List.getElem?_eq_getElem hlt]; rfl
      have hft : noteFit wide l[k] = fe := by rw [HXY.out]; unfold noteFit noteH; rw [HFE.out]
      have HNL := Lib.hid hnl
      have HTK := Lib.hid htk
      have HFT := Lib.hid hft
      clear hnl htk hft
      cases fe
      · have HE := Lib.hid (show ok = false by
          rw [HOK.out, List.all_eq_false]
          exact ⟨l[k], List.getElem_mem hlt, by rw [HFT.out]; simp⟩)
        go_wp2
        go_ret2
        exact ⟨by rw [HRS.out, HE.out]; rfl, ((Below.refl _ _).alloc (Nat.le_refl _) _).trans ((HB.out.mono (by omega)).trans (HB3.out.mono (by omega)))⟩
      · have hle : ((l.take k).flatMap (noteL big wide)).length + (es ++ nm ++ padZ nm.length ++ ds ++ padZ ds.length).length ≤ 1000000 := HLE.out
        obtain ⟨tl, htl⟩ : ∃ tl, tl = ((l.take k).flatMap (noteL big wide) ++ (es ++ nm ++ padZ nm.length ++ ds ++ padZ ds.length)) := ⟨_, rfl⟩
        have htl2 : tl.length ≤ 1000000 := by rw [htl, List.length_append]; exact hle
        rw [← htl] at HBD
        have HTL := Lib.hid htl
        clear htl hle
        have t1 : decide ((1048576 : Int) < (tl.length : Int)) = false := decide_eq_false (by omega)
        go_wp2_with (first
          | (go_at_call 21; refine (len_b (w.heap.size + 2) (w.heap.size + 1) tl _ HBD.out).mono ?_; rintro e w3 ⟨rfl, rfl⟩))
        refine ⟨⟨k + 1, by omega, by go_num, Lib.hid ?_, Lib.hid (HB.out.trans HB3.out), Lib.hid ?_⟩, by simp [intOf]; omega⟩
        · have q := HTK.out
          rw [q, List.flatMap_append]
          simp only [List.flatMap_cons, List.flatMap_nil, List.append_nil]
          rw [HNL.out, ← HTL.out]; exact HBD.out
        · rw [HTK.out, List.all_append, HA.out]; simp [HFT.out]
    · obtain rfl : k = l.length := by omega
      rw [List.take_length] at HBU HA
      have HE := Lib.hid (show ok = true by rw [HOK.out, HA.out])
      go_wp2_with (first
        | (go_at_call 22; refine (string_b (w.heap.size + 2) (w.heap.size + 1) _ _ HBU.out).mono ?_; rintro e wz ⟨rfl, hbz⟩))
      go_ret2
      exact ⟨by rw [HRS.out, HE.out]; rfl, ((Below.refl _ _).alloc (Nat.le_refl _) _).trans ((HB.out.mono (by omega)).trans (hbz.mono (by omega)))⟩
end Go.Proofs.YtcfbdnlbgcoicaaDoor

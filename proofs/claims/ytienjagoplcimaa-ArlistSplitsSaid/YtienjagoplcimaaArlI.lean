/- Contracts over this translation: arlist.Insert of members of good names. -/
import Derived.Test.YtienjagoplcimaaArlH
import Derived.Deep.RegionWith
namespace Go.Proofs.Ytienjagoplcimaa
set_option linter.unusedVariables false
set_option linter.unusedSimpArgs false
open Go.RowKit Go.Proofs.YtienjagoplcimaaW.PrintWords

/-- An insertion of good members: the list, the error. -/
def insertR (l : List MemD) (at_ : Int) (more : List MemD) : List MemD × Int :=
  if at_ < 0 ∨ (l.length : Int) < at_ then ([], 11) else if 1024 < l.length + more.length then ([], 10) else (l.take at_.toNat ++ more ++ l.drop at_.toNat, 0)
theorem rd_take {w : World} {a : Option Addr} {l : List MemD} (h : Rd w a (l.flatMap encM)) (k : Nat) : Rd w a ((l.take k).flatMap encM) := by
  have e : l.flatMap encM = (l.take k).flatMap encM ++ (l.drop k).flatMap encM := by rw [← List.flatMap_append, List.take_append_drop]
  rcases h with h | ⟨b, o, ha, hc⟩
  · rw [e] at h; exact .inl (List.append_eq_nil_iff.1 h).1
  · exact .inr ⟨b, o, ha, fun j u hj => hc j u (by rw [e, List.getElem?_append_left (List.getElem?_eq_some_iff.1 hj).1]; exact hj)⟩
theorem rd_drop {w : World} {ad : Addr} {l : List MemD} (h : Rd w (some ad) (l.flatMap encM)) (k c : Nat) (hc : l.length ≤ c) (hk : k ≤ l.length) : Rd w (if c = k then some ad else some (ad.add (k * 6))) ((l.drop k).flatMap encM) := by
  split
  · rename_i hck
    rw [List.drop_eq_nil_of_le (by omega)]
    exact .inl rfl
  · rcases h with h | ⟨b, o, ha, hc⟩
    · rw [← (flat_at l k hk).2, h]; exact .inl (by simp)
    · injection ha with ha
      subst ha
      refine .inr ⟨b, o + k * 6, by rw [Lib.add_plain], fun j u hj => ?_⟩
      rw [← (flat_at l k hk).2, List.getElem?_drop] at hj
      rw [Nat.add_assoc]
      exact hc _ u hj
theorem size_alloc (w : World) (o : Obj) : w.heap.size ≤ (w.alloc o).drew.heap.size := by
  show w.heap.size ≤ (w.alloc o).heap.size
  simp
theorem three_cells (w : World) (x y z : SlD) (t : TypeId) : ∀ j s, [x, y, z][j]? = some s → ((w.alloc (.cells #[x.val, y.val, z.val] t)).drew).cell? ⟨w.heap.size, j, none⟩ = some s.val := by
  intro j s hj
  show (w.alloc (.cells #[x.val, y.val, z.val] t)).cell? ⟨w.heap.size, j, none⟩ = some s.val
  rw [cell_of_row _ _ j _ t (0, 0) (heap_new w _)]
  match j, hj with
  | 0, hj => cases hj; rfl
  | 1, hj => cases hj; rfl
  | 2, hj => cases hj; rfl
theorem three_vals (w : World) {x y z : SlD} {v0 v1 v2 : Value} {t : TypeId} (hx : x.val = v0) (hy : y.val = v1) (hz : z.val = v2) : ∀ j s, [x, y, z][j]? = some s → ((w.alloc (.cells #[v0, v1, v2] t)).drew).cell? ⟨w.heap.size, j, none⟩ = some s.val := by
  subst hx; subst hy; subst hz
  exact three_cells w x y z t
theorem rd_three {W : World} {ss : List SlD} (o : Obj) (h : ∀ s ∈ ss, Rd W s.a (s.l.flatMap encM)) : ∀ s ∈ ss, Rd (W.alloc o).drew s.a (s.l.flatMap encM) := fun s hs => (h s hs).alloc o
theorem after_three {w w1 w2 : World} {o : Obj} (h : Below w.heap.size w w1) (h2 : Below (w1.alloc o).drew.heap.size (w1.alloc o).drew w2) : Below w.heap.size w w2 := by
  have h3 : Below w.heap.size w (w1.alloc o) := h.alloc h.size o
  have h4 : Below (w1.alloc o).heap.size (w1.alloc o) w2 := ⟨h2.os, h2.tape, h2.output, h2.size, h2.block⟩
  exact h3.trans (h4.mono h3.size)
set_option maxHeartbeats 1000000 in
set_option maxRecDepth 100000 in
theorem insert_m (l : List MemD) (hl : l.length ≤ 1000000) (at_ : Int) (more : List MemD) (hm0 : 0 < more.length) (hml : more.length ≤ 1000000) (hg : ∀ m ∈ more, goodNm m.n) (a : Option Addr) (c : Nat) (hc : l.length ≤ c) (am : Option Addr) (cm : Nat) (w : World)
    (hr : Rd w a (l.flatMap encM)) (hrm : Rd w am (more.flatMap encM)) :
    Calls Try.prog 11 #[.slice a l.length c, .int .i64 at_, .slice am more.length cm] w fun e w' => (∃ v, e = .returned (.tuple #[v, .int .i64 (insertR l at_ more).2]) ∧ w'.ownsRow w.heap.size 28 6 v (insertR l at_ more).1.length ((insertR l at_ more).1.flatMap encM)) ∧ Below w.heap.size w w' := by
  have HR := Lib.hid hr
  have HRM := Lib.hid hrm
  have HCB := Lib.hid (fun W h => contains_bad more hml hg am cm W h)
  clear hr hrm hg
  by_cases h1 : at_ < 0 ∨ (l.length : Int) < at_
  · have h2 : insertR l at_ more = ([], 11) := by unfold insertR; rw [if_pos h1]
    rw [h2]
    clear h2
    by_cases hlo : at_ < 0
    · go_enter Try.func11, Try.ntmps11
      go_wp2
      go_ret2
      exact ⟨⟨_, rfl, World.ownsRow_nil _ _ _ _⟩, Below.refl _ _⟩
    · have hhi : (l.length : Int) < at_ := by omega
      go_enter Try.func11, Try.ntmps11
      go_wp2
      go_ret2
      exact ⟨⟨_, rfl, World.ownsRow_nil _ _ _ _⟩, Below.refl _ _⟩
  · obtain ⟨k, rfl⟩ : ∃ k : Nat, at_ = (k : Int) := ⟨at_.toNat, by omega⟩
    have hk : k ≤ l.length := by omega
    have hlo : ¬ ((k : Int) < 0) := by omega
    have hhi : ¬ ((l.length : Int) < (k : Int)) := by omega
    have hw : wrap64 ((l.length : Int) + (more.length : Int)) = (l.length : Int) + (more.length : Int) := by unfold wrap64; omega
    by_cases hcnt : 1024 < l.length + more.length
    · have h2 : insertR l (k : Int) more = ([], 10) := by unfold insertR; rw [if_neg h1, if_pos hcnt]
      rw [h2]
      have hcI : (1024 : Int) < (l.length : Int) + (more.length : Int) := by omega
      clear h2 h1
      go_enter Try.func11, Try.ntmps11
      go_wp2_with (first | (go_at_call 24; refine (HCB.out _ HRM.out).mono ?_; rintro e w1 ⟨rfl, hb1⟩; have HB1 := Lib.hid hb1; clear hb1))
      go_ret2
      exact ⟨⟨_, rfl, World.ownsRow_nil _ _ _ _⟩, HB1.out⟩
    · have h2 : insertR l (k : Int) more = (l.take k ++ more ++ l.drop k, 0) := by unfold insertR; rw [if_neg h1, if_neg hcnt, Int.toNat_natCast]
      rw [h2]
      have hcI : ¬ ((1024 : Int) < (l.length : Int) + (more.length : Int)) := by omega
      have hk0 : (0 : Int) ≤ (k : Int) := by omega
      have hkl : (k : Int) ≤ (l.length : Int) := by omega
      have hkc : (k : Int) ≤ (c : Int) := by omega
      have hkcn : k ≤ c := by omega
      have mixed : Try.prog.follows .mixedOrders = true := by kernel_rfl
      clear h2 h1
      cases a with
      | none =>
        have h0' := HR.out.none_nil
        have hl0 : l = [] := by
          cases l with
          | nil => rfl
          | cons x r => simp [encM] at h0'
        subst hl0
        obtain rfl : k = 0 := by simpa using hk
        have HCC := Lib.hid (fun b W h1 h2 => concat_m [⟨none, c, []⟩, ⟨am, cm, more⟩, ⟨none, c, []⟩] (([] : List MemD).take 0 ++ more ++ ([] : List MemD).drop 0) (by simp) rfl (by simpa using hm0) (by simpa using hml) b W h1 h2)
        have HRD := Lib.hid (fun W (hB : Below w.heap.size w W) => (show ∀ s ∈ [(⟨none, c, []⟩ : SlD), ⟨am, cm, more⟩, ⟨none, c, []⟩], Rd W s.a (s.l.flatMap encM) from by
          intro s hs
          simp at hs
          rcases hs with rfl | rfl | rfl
          · exact .inl rfl
          · exact HRM.out.below hB
          · exact .inl rfl))
        have HX1 := Lib.hid (show (⟨none, c, []⟩ : SlD).val = .slice none 0 c from rfl)
        have HX2 := Lib.hid (show (⟨am, cm, more⟩ : SlD).val = .slice am more.length cm from rfl)
        have HX3 := HX1
        go_enter Try.func11, Try.ntmps11
        go_wp2_with (first | (go_at_call 24; refine (HCB.out _ HRM.out).mono ?_; rintro e w1 ⟨rfl, hb1⟩; have HB1 := Lib.hid hb1; clear hb1))
        go_region_with (first | (go_at_call 25; refine (HCC.out w1.heap.size _ (three_vals w1 HX1.out HX2.out HX3.out) (rd_three _ (HRD.out _ HB1.out))).mono ?_; rintro e w2 ⟨⟨v, rfl, ho⟩, hb2⟩; have HO2 := Lib.hid (owns_base ho (Nat.le_trans HB1.out.size (size_alloc w1 _))); have HB2 := Lib.hid (after_three HB1.out hb2); clear ho hb2))
        (try go_wp2)
        go_ret2
        exact ⟨⟨_, rfl, HO2.out⟩, HB2.out⟩
      | some ad =>
        obtain ⟨ab, ao, asp⟩ := ad
        by_cases hck : c = k
        · obtain rfl : c = k := hck
          obtain rfl : c = l.length := by omega
          have HCC := Lib.hid (fun b W h1 h2 => concat_m [⟨some ⟨ab, ao, asp⟩, l.length, l⟩, ⟨am, cm, more⟩, ⟨some ⟨ab, ao, asp⟩, 0, []⟩] (l.take l.length ++ more ++ l.drop l.length) (by simp) rfl (by simp; omega) (by simp; omega) b W h1 h2)
          have HRD := Lib.hid (fun W (hB : Below w.heap.size w W) => (show ∀ s ∈ [(⟨some ⟨ab, ao, asp⟩, l.length, l⟩ : SlD), ⟨am, cm, more⟩, ⟨some ⟨ab, ao, asp⟩, 0, []⟩], Rd W s.a (s.l.flatMap encM) from by
            intro s hs
            simp at hs
            rcases hs with rfl | rfl | rfl
            · exact HR.out.below hB
            · exact HRM.out.below hB
            · exact .inl rfl))
          have HX1 := Lib.hid (show (⟨some ⟨ab, ao, asp⟩, l.length, l⟩ : SlD).val = .slice (some ⟨ab, ao, asp⟩) l.length l.length from rfl)
          have HX2 := Lib.hid (show (⟨am, cm, more⟩ : SlD).val = .slice am more.length cm from rfl)
          have HX3 := Lib.hid (show (⟨some ⟨ab, ao, asp⟩, 0, []⟩ : SlD).val = .slice (some ⟨ab, ao, asp⟩) 0 0 from rfl)
          go_enter Try.func11, Try.ntmps11
          go_wp2_with (first | (go_at_call 24; refine (HCB.out _ HRM.out).mono ?_; rintro e w1 ⟨rfl, hb1⟩; have HB1 := Lib.hid hb1; clear hb1))
          go_region_with (first | (go_at_call 25; refine (HCC.out w1.heap.size _ (three_vals w1 HX1.out HX2.out HX3.out) (rd_three _ (HRD.out _ HB1.out))).mono ?_; rintro e w2 ⟨⟨v, rfl, ho⟩, hb2⟩; have HO2 := Lib.hid (owns_base ho (Nat.le_trans HB1.out.size (size_alloc w1 _))); have HB2 := Lib.hid (after_three HB1.out hb2); clear ho hb2))
          (try go_wp2)
          go_ret2
          exact ⟨⟨_, rfl, HO2.out⟩, HB2.out⟩
        · have hlk : (l.take k).length = k := by rw [List.length_take]; omega
          have hld : (l.drop k).length = l.length - k := List.length_drop
          have HCC := Lib.hid (fun b W h1 h2 => concat_m [⟨some ⟨ab, ao, asp⟩, c, l.take k⟩, ⟨am, cm, more⟩, ⟨some ((⟨ab, ao, asp⟩ : Addr).add (k * 6)), c - k, l.drop k⟩] (l.take k ++ more ++ l.drop k) (by simp) rfl (by simp; omega) (by simp; omega) b W h1 h2)
          have HRD := Lib.hid (fun W (hB : Below w.heap.size w W) => (show ∀ s ∈ [(⟨some ⟨ab, ao, asp⟩, c, l.take k⟩ : SlD), ⟨am, cm, more⟩, ⟨some ((⟨ab, ao, asp⟩ : Addr).add (k * 6)), c - k, l.drop k⟩], Rd W s.a (s.l.flatMap encM) from by
            intro s hs
            simp at hs
            rcases hs with rfl | rfl | rfl
            · exact rd_take (HR.out.below hB) k
            · exact HRM.out.below hB
            · have := rd_drop (HR.out.below hB) k c hc hk
              rw [if_neg hck] at this
              exact this))
          have hx1 : (⟨some ⟨ab, ao, asp⟩, c, l.take k⟩ : SlD).val = .slice (some ⟨ab, ao, asp⟩) k c := by unfold SlD.val; rw [hlk]
          have hx3 : (⟨some ((⟨ab, ao, asp⟩ : Addr).add (k * 6)), c - k, l.drop k⟩ : SlD).val = .slice (some ((⟨ab, ao, asp⟩ : Addr).add (k * 6))) (l.length - k) (c - k) := by unfold SlD.val; rw [hld]
          have HX1 := Lib.hid hx1
          have HX2 := Lib.hid (show (⟨am, cm, more⟩ : SlD).val = .slice am more.length cm from rfl)
          have HX3 := Lib.hid hx3
          clear hx1 hx3 hlk hld
          go_enter Try.func11, Try.ntmps11
          go_wp2_with (first | (go_at_call 24; refine (HCB.out _ HRM.out).mono ?_; rintro e w1 ⟨rfl, hb1⟩; have HB1 := Lib.hid hb1; clear hb1))
          go_region_with (first | (go_at_call 25; refine (HCC.out w1.heap.size _ (three_vals w1 HX1.out HX2.out HX3.out) (rd_three _ (HRD.out _ HB1.out))).mono ?_; rintro e w2 ⟨⟨v, rfl, ho⟩, hb2⟩; have HO2 := Lib.hid (owns_base ho (Nat.le_trans HB1.out.size (size_alloc w1 _))); have HB2 := Lib.hid (after_three HB1.out hb2); clear ho hb2))
          (try go_wp2)
          go_ret2
          exact ⟨⟨_, rfl, HO2.out⟩, HB2.out⟩
end Go.Proofs.Ytienjagoplcimaa

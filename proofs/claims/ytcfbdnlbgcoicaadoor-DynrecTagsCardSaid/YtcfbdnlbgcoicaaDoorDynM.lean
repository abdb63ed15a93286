/- The walk of the law DynrecTags. -/
import Derived.Test.YtcfbdnlbgcoicaaDoorDynE
import Derived.Test.YtcfbdnlbgcoicaaDoorDynI
import Derived.Test.YtcfbdnlbgcoicaaDoorDynL
import Derived.Test.YtcfbdnlbgcoicaaDoorDynN
import Derived.Deep.QuietTactic
import Derived.BigQuiet
import Derived.Laws.StructEq
import Derived.Deep.AppendLies
namespace Go.Proofs.YtcfbdnlbgcoicaaDoor
set_option linter.unusedVariables false
set_option linter.unusedSimpArgs false
set_option maxRecDepth 8192
open Go.RowKit

/-- A row is kept where another row of another kind of element grows. -/
theorem own_kept {w w' : World} {b1 b2 : Nat} {e1 e2 : TypeId} {s1 s2 n1 n2 : Nat} {v1 v2 : Value} {x1 x2 : List Value} (h1 : w.ownsRow b1 e1 s1 v1 n1 x1) (h2 : w.ownsRow b2 e2 s2 v2 n2 x2) (he : e1 ≠ e2) {wm : World} (hm : Below w.heap.size w wm) (hg : wm.grownBy w' v2.ownBlock) : w'.ownsRow b1 e1 s1 v1 n1 x1 := by
  obtain ⟨hl, h | ⟨g, cap, cur, hv, hgb, hcur, hr⟩⟩ := h1
  · exact ⟨hl, .inl h⟩
  · refine ⟨hl, .inr ⟨g, cap, cur, hv, hgb, ?_, hr⟩⟩
    have hlt : g < w.heap.size := by
      rcases Nat.lt_or_ge g w.heap.size with hh | hh
      · exact hh
      · rw [Array.getElem?_eq_none hh] at hcur; cases hcur
    rw [hg.block g (Nat.lt_of_lt_of_le hlt hm.size) ?_, hm.block g hlt]; exact hcur
    intro he2
    rcases h2.2 with ⟨rfl, _⟩ | ⟨g2, c2, cu2, rfl, _, hc2, _⟩
    · simp [Value.ownBlock] at he2
    · have : g2 = g := by simpa [Value.ownBlock] using he2.symm
      subst this
      rw [hcur] at hc2
      injection hc2 with hc2; injection hc2 with _ hc2 _
      exact he hc2

set_option maxHeartbeats 1200000 in
theorem tags_walk (l : List (Nat × Nat)) (hl : l.length ≤ 9223372036854775807) (hns : ∀ e ∈ l, e.1 < 18446744073709551616 ∧ e.2 < 18446744073709551616) (ta : Option Addr) (tc : Nat) (a b : Nat) (ha : a < 18446744073709551616) (hb : b < 18446744073709551616) (w : World) (ht : TagTabs w)
    (hr : Rd w ta (l.flatMap encE)) :
    Calls Tryd.prog 6 #[.slice ta l.length tc, .int .u64 a, .int .u64 b] w fun e w' => e = .returned (.bool true) ∧ Below w.heap.size w w' := by
  obtain ⟨i0, hi, hz0, hz1, hz2⟩ := info_parts Tryd.infoEntry
  have HI := Lib.hid (And.intro hi (And.intro hz0 (And.intro hz1 hz2)))
  clear hi hz0 hz1 hz2
  obtain ⟨j0, hi, hz0, hz1, hz2⟩ := info_parts Tryd.infoU64
  have HJ := Lib.hid (And.intro hi (And.intro hz0 (And.intro hz1 hz2)))
  clear hi hz0 hz1 hz2
  have HT := Lib.hid ht
  have HR := Lib.hid hr
  have HN := Lib.hid hns
  clear ht hr hns
  go_enter Tryd.func6, Tryd.ntmps6
  go_wp2_with (first
    | (go_at_call 7; refine (speaks_any _).mono ?_; rintro e w1 ⟨rfl, hb1⟩; have H1 := Lib.hid hb1; clear hb1))
  have hsz1 : w.heap.size ≤ w1.heap.size := H1.out.size
  go_loopw [9, 7, 8] (fun i v u wr => ∃ k : Nat, k ≤ l.length ∧ k ≤ 12 ∧ i = .int .i64 k ∧ (∃ va vc, v = .slice va k vc) ∧ (∃ ua uc, u = .slice ua (allL (l.take k) a).length uc) ∧ Hid (wr.ownsRow w1.heap.size 51 2 v k ((l.take k).flatMap encE)) ∧ Hid (wr.ownsRow w1.heap.size 31 1 u (allL (l.take k) a).length ((allL (l.take k) a).map encU)) ∧ Hid (Below w1.heap.size w1 wr)) (fun i v u wr => l.length - (intOf i).toNat)
  case atStart => exact ⟨0, Nat.zero_le _, Nat.zero_le _, rfl, ⟨none, 0, rfl⟩, ⟨none, 0, rfl⟩, Lib.hid (World.ownsRow_nil _ _ _ _), Lib.hid (World.ownsRow_nil _ _ _ _), Lib.hid (Below.refl _ _)⟩
  case round =>
    obtain ⟨k, hk, hk12, rfl, ⟨va, vc, rfl⟩, ⟨ua, uc, rfl⟩, HV, HU, HB⟩ := hrel
    have hszr : w1.heap.size ≤ wr.heap.size := HB.out.size
    by_cases hlt : k < l.length ∧ k < 12
    · obtain ⟨hlt, hlt12⟩ := hlt
      obtain ⟨x, y, hxy⟩ : ∃ x y, l[k] = (x, y) := ⟨_, _, rfl⟩
      have hx2 : x < 18446744073709551616 ∧ y < 18446744073709551616 := by have := HN.out _ (List.getElem_mem hlt); rw [hxy] at this; exact this
      obtain ⟨b0, o0, hbo, hcl⟩ := HR.out.at (by rw [flat_length encE 2 encE_length]; omega)
      subst hbo
      have q0w := hcl (k * 2 + 0) (.int .u64 (x : Int)) (by rw [flat_get encE 2 encE_length l k hlt 0 (by decide), hxy]; rfl)
      have q1w := hcl (k * 2 + 1) (.int .u64 (y : Int)) (by rw [flat_get encE 2 encE_length l k hlt 1 (by decide), hxy]; rfl)
      rw [Nat.add_zero] at q0w
      rw [← Nat.add_assoc] at q1w
      have hb0 : b0 < w.heap.size := cell_lt q0w
      have q0 : wr.cell? ⟨b0, o0 + k * 2, none⟩ = some (.int .u64 (x : Int)) := by rw [HB.out.cell (by show b0 < _; omega), H1.out.cell hb0]; exact q0w
      have q1 : wr.cell? ⟨b0, o0 + k * 2 + 1, none⟩ = some (.int .u64 (y : Int)) := by rw [HB.out.cell (by show b0 < _; omega), H1.out.cell hb0]; exact q1w
      clear q0w q1w
      have htk : l.take (k + 1) = l.take k ++ [(x, y)] := by rw [List.take_add_one, List.getElem?_eq_getElem hlt, hxy]; rfl
      have hlen : (allL (l.take k) a).length ≤ 12 := by
        unfold allL; rw [List.length_map]
        have h1 := List.length_filter_le (fun e : Nat × Nat => e.1 == a) (l.take k)
        rw [List.length_take] at h1; omega
      obtain ⟨pre, hpre⟩ : ∃ pre, pre = allL (l.take k) a := ⟨_, rfl⟩
      rw [← hpre] at HU hlen
      rw [← hpre]
      have HTK := Lib.hid htk
      have HPR := Lib.hid hpre
      clear hcl hxy htk hpre
      have hq := And.intro q0 q1
      have hbr : b0 < wr.heap.size := by omega
      go_wp2
      go_region_held3 (fun w' => w'.cell? ⟨b0, o0 + k * 2, none⟩ = some (.int .u64 (x : Int)) ∧ w'.cell? ⟨b0, o0 + k * 2 + 1, none⟩ = some (.int .u64 (y : Int))) (first | exact hq | exact hq2 | exact pair_below (w := wr.drew) hq ((Below.refl _ _).alloc (Nat.le_refl _) _))
        (first
          | (go_loud (refine step_append_lies _ (by rfl) _ _ 47 (by rfl) w1.heap.size 51 i0 (.agg #[.int .u64 0, .int .u64 0]) 2 16 Tryd.underlying47 HI.out.1 HI.out.2.1 HI.out.2.2.1 HI.out.2.2.2 rfl (by decide) (.slice va k vc) k _ (by rfl) (ownsRow_below HV.out (below_undrew ((Below.refl wr.heap.size wr.drew).alloc (Nat.le_refl _) _))) ⟨wr.heap.size, 0, none⟩ 1 1 [.int .u64 (x : Int), .int .u64 (y : Int)] (by rfl) (by rfl) (new_cells wr.drew wr.heap.size [_, _] _ rfl) (by intro u hu; simp at hu; rcases hu with rfl | rfl <;> rfl) (by decide) (by unfold maxLen; omega) (by omega) (by simp; omega) _ rfl ?_); intro g cap w2 hown hgrow hat hgl; have hbw2 := below_own (B := w1.heap.size) (below_undrew ((Below.refl w1.heap.size wr.drew).alloc hszr (.cells #[.int .u64 (x : Int), .int .u64 (y : Int)] 51))) HV.out hgrow (by simp; omega) (Nat.le_refl _); have hq2 := And.intro ((hbw2.cell (p := ⟨b0, o0 + k * 2, none⟩) (by show b0 < _; omega)).trans q0) ((hbw2.cell (p := ⟨b0, o0 + k * 2 + 1, none⟩) (by show b0 < _; omega)).trans q1)))
      have hcsv : (l.take k).flatMap encE ++ [.int .u64 (x : Int), .int .u64 (y : Int)] = (l.take (k + 1)).flatMap encE := by rw [HTK.out, List.flatMap_append]; simp [encE]
      rw [hcsv] at hown
      have HV2 := Lib.hid hown
      have HU2 := Lib.hid (own_kept HU.out HV.out (by decide) (below_undrew ((Below.refl wr.heap.size wr.drew).alloc (Nat.le_refl _) _)) hgrow)
      have HB2 := Lib.hid (HB.out.trans hbw2)
      have hsz2 : wr.heap.size < w2.heap.size := by have := hgrow.size; simp at this; omega
      clear hcsv hown hgrow hat hgl hbw2 q0 q1 hq HV HU
      obtain ⟨q0, q1⟩ := hq2
      have HK2 := Lib.hid (show l.length - (k + 1) < l.length - k by omega)
      by_cases hxa : x = a
      · subst hxa
        have HE := Lib.hid (show allL (l.take (k + 1)) x = pre ++ [y] by rw [HTK.out, allL_append, ← HPR.out]; simp [allL])
        go_wp2_with (first
          | (at_builtin; refine wpList_append_own _ rfl _ _ 58 rfl w1.heap.size 31 j0 (.int .u64 0) 1 8 Tryd.underlying58 HJ.out.1 HJ.out.2.1 HJ.out.2.2.1 HJ.out.2.2.2 rfl (by decide) _ _ _ rfl (HU2.out.alloc _) ⟨w2.heap.size, 0, none⟩ 1 1 [.int .u64 (y : Int)] rfl rfl ?c1 ?c2 ?c3 ?c4 ?c5 ?_))
        case c1 => exact new_cells _ _ [_] _ (by simp)
        case c2 => intro u hu; simp at hu; subst hu; rfl
        case c3 => unfold maxLen; omega
        case c4 => omega
        case c5 => simp; omega
        intro vv w3 hown hgrow hnn
        clear hnn
        obtain ⟨va', vc', rfl⟩ := own_slice hown
        have HV3 := Lib.hid (own_kept HV2.out HU2.out (by decide) ((Below.refl w2.heap.size w2).alloc (Nat.le_refl _) _) hgrow)
        have HBW := Lib.hid (show Below w1.heap.size w1 w3 from below_own (HB2.out.alloc (by omega) _) HU2.out hgrow (by simp; omega) (Nat.le_refl _))
        have HOW := Lib.hid hown
        clear hown hgrow
        go_wp2
        go_roundw
        case rel =>
          have e1 : (allL (l.take (k + 1)) x).length = pre.length + 1 := by rw [HE.out]; simp
          refine ⟨k + 1, by omega, by omega, by go_num, ⟨_, _, rfl⟩, ⟨va', vc', by rw [e1]⟩, HV3, ?_, HBW⟩
          rw [e1, HE.out]
          have := HOW.out
          exact Lib.hid (by simpa [encU] using this)
        case measure => simp [intOf]; omega
      · have hxb : ((x : Int) == (a : Int)) = false := beq_eq_false_iff_ne.2 (by omega)
        have HE := Lib.hid (show allL (l.take (k + 1)) a = pre by rw [HTK.out, allL_append, ← HPR.out]; simp [allL, hxa])
        go_wp2
        refine ⟨⟨k + 1, by omega, by omega, by go_num, ⟨_, _, rfl⟩, ⟨ua, uc, by rw [HE.out]⟩, HV2, Lib.hid ?_, HB2⟩, by simp [intOf]; omega⟩
        rw [HE.out]
        exact HU2.out
    · have hend : k = l.length ∨ (k < l.length ∧ k = 12) := by omega
      obtain ⟨ls, hls⟩ : ∃ ls, ls = l.take k := ⟨_, rfl⟩
      rw [← hls] at HV HU
      rw [← hls]
      have hlk : ls.length = k := by rw [hls, List.length_take]; omega
      have hlsn : ∀ e ∈ ls, e.1 < 18446744073709551616 ∧ e.2 < 18446744073709551616 := by intro e he; rw [hls] at he; exact HN.out e (List.mem_of_mem_take he)
      have hAl : (allL ls a).length ≤ 12 := by
        unfold allL; rw [List.length_map]
        have h1 := List.length_filter_le (fun e : Nat × Nat => e.1 == a) ls
        omega
      have HALL := Lib.hid (fun W hW => all_any ls (by omega) hlsn a ha va vc W hW)
      have HFIND := Lib.hid (fun W hW => find_any ls (by omega) hlsn a ha va vc W hW)
      obtain ⟨A, hA⟩ : ∃ A, A = allL ls a := ⟨_, rfl⟩
      rw [hlk, ← hA] at HALL HFIND
      rw [← hA] at HU hAl
      rw [← hA]
      have HBR := Lib.hid (H1.out.trans (HB.out.mono hsz1))
      have HTR := Lib.hid (HT.out.below HBR.out)
      have CA := Lib.hid (fun W h => tagName_any a ha W h)
      have CB := Lib.hid (fun W h => tagName_any b hb W h)
      have C1 : Hid (∀ W, TagTabs W → Calls Tryd.prog 17 #[.int .u64 1] W fun e w' => e = .returned (.string ⟨#[78, 69, 69, 68, 69, 68]⟩) ∧ Below W.heap.size W w') := Lib.hid (fun W h => tagName_any 1 (by decide) W h)
      have C24 : Hid (∀ W, TagTabs W → Calls Tryd.prog 17 #[.int .u64 24] W fun e w' => e = .returned (.string ⟨#[66, 73, 78, 68, 95, 78, 79, 87]⟩) ∧ Below W.heap.size W w') := Lib.hid (fun W h => tagName_any 24 (by decide) W h)
      have C5 : Hid (∀ W, TagTabs W → Calls Tryd.prog 17 #[.int .u64 5] W fun e w' => e = .returned (.string ⟨#[83, 84, 82, 84, 65, 66]⟩) ∧ Below W.heap.size W w') := Lib.hid (fun W h => tagName_any 5 (by decide) W h)
      obtain ⟨na, hna⟩ : ∃ x, x = tagName a := ⟨_, rfl⟩
      obtain ⟨nb, hnb⟩ : ∃ x, x = tagName b := ⟨_, rfl⟩
      obtain ⟨D, hD⟩ : ∃ D : Bool, D = decide (a = b) := ⟨_, rfl⟩
      obtain ⟨E, hE⟩ : ∃ E : Bool, E = decide (24 < a) := ⟨_, rfl⟩
      have f1 : ((⟨na.toArray⟩ : ByteArray) == ⟨nb.toArray⟩) = D := by rw [ba_beq, hna, hnb, hD]; exact decide_eq_decide.2 (tagName_inj a b)
      have f2 : ((a : Int) == (b : Int)) = D := by
        rw [hD]
        by_cases h : a = b
        · rw [decide_eq_true h]; exact beq_iff_eq.2 (by omega)
        · rw [decide_eq_false h]; exact beq_eq_false_iff_ne.2 (by omega)
      have f3 : decide ((24 : Int) < (a : Int)) = E := by rw [hE]; exact decide_eq_decide.2 (by omega)
      have hnal : 2 ≤ na.length := by rw [hna]; exact (tagName_take a).2
      have f4 : ((⟨na.toArray⟩ : ByteArray).extract 0 2 == ⟨#[48, 120]⟩) = E := by
        rw [ext_list]
        show ((⟨((na.drop 0).take 2).toArray⟩ : ByteArray) == ⟨[48, 120].toArray⟩) = E
        rw [ba_beq, hE, hna]
        exact decide_eq_decide.2 (tagName_take a).1
      have f5 : (na == nb) = D := by rw [← f1, ba_beq]; by_cases h : na = nb <;> simp [h]
      have f6 : (((⟨na.toArray⟩ : ByteArray).extract 0 2).toList == [48, 120]) = E := by
        have h := f4
        rw [beq_toListBytes, ByteArray.toList_eq ⟨#[48, 120]⟩] at h
        exact h
      rw [← hna] at CA
      rw [← hnb] at CB
      have hnl : (⟨na.toArray⟩ : ByteArray).size = na.length := rfl
      clear hls hlsn hA hna hnb hD hE HB hlt hlk
      cases A with
      | nil =>
        rcases hend with hend | ⟨hend1, hend⟩
        all_goals
          subst hend
          go_wp2_with (first
            | (go_at_call 15; refine (HALL.out _ (Rd.of_own HV.out)).mono ?_; rintro e w2 ⟨ga, gc, rfl, hg, hb2⟩; have HGA := Lib.hid hg; have HB2 := Lib.hid hb2; clear hg hb2)
            | (go_at_call 16; refine (HFIND.out _ ((Rd.of_own HV.out).below HB2.out)).mono ?_; rintro e w3 ⟨rfl, hb3⟩; have HG := Lib.hid (HGA.out.below hb3); have HW := Lib.hid (((Rd.of_own HU.out).below HB2.out).below hb3); have H3 := Lib.hid (((HTR.out).below HB2.out).below hb3); have H4 := Lib.hid ((HBR.out.trans (HB2.out.mono HBR.out.size)).trans (hb3.mono (Nat.le_trans HBR.out.size HB2.out.size))); clear hb3))
          go_loopw [13] (fun i wq => ∃ j : Nat, j ≤ ([] : List Nat).length ∧ i = .int .i64 j ∧ Hid (Below w3.heap.size w3 wq)) (fun i _ => ([] : List Nat).length - (intOf i).toNat)
          case atStart => exact ⟨0, Nat.zero_le _, rfl, Lib.hid (Below.refl _ _)⟩
          case round =>
            obtain ⟨j, hj, rfl, HBQ⟩ := hrel
            by_cases hjl : j < ([] : List Nat).length
            · exact absurd hjl (by simp)
            · obtain rfl : j = ([] : List Nat).length := by omega
              have HTT := Lib.hid (H3.out.below HBQ.out)
              have HBT := Lib.hid (H4.out.trans (HBQ.out.mono H4.out.size))
              clear HBQ
              go_wp2_with (first
                | (go_at_call 17; have hh := ht4; refine (C5.out _ ht4.out).mono ?_; rintro e x5 ⟨rfl, hx5⟩; have hu5 := Lib.hid (hu4.out.trans (hx5.mono hu4.out.size)); clear hx5)
                | (go_at_call 17; have hh := ht3; refine (C24.out _ ht3.out).mono ?_; rintro e x4 ⟨rfl, hx4⟩; have ht4 := Lib.hid (ht3.out.below hx4); have hu4 := Lib.hid (hu3.out.trans (hx4.mono hu3.out.size)); clear hx4)
                | (go_at_call 17; have hh := ht2; refine (C1.out _ ht2.out).mono ?_; rintro e x3 ⟨rfl, hx3⟩; have ht3 := Lib.hid (ht2.out.below hx3); have hu3 := Lib.hid (hu2.out.trans (hx3.mono hu2.out.size)); clear hx3)
                | (go_at_call 17; have hh := ht1; refine (CB.out _ ht1.out).mono ?_; rintro e x2 ⟨rfl, hx2⟩; have ht2 := Lib.hid (ht1.out.below hx2); have hu2 := Lib.hid (hu1.out.trans (hx2.mono hu1.out.size)); clear hx2)
                | (go_at_call 17; refine (CA.out _ HTT.out).mono ?_; rintro e x1 ⟨rfl, hx1⟩; have ht1 := Lib.hid (HTT.out.below hx1); have hu1 := Lib.hid (HBT.out.trans (hx1.mono HBT.out.size)); clear hx1))
              go_ret
              exact ⟨rfl, hu5.out⟩
      | cons X r =>
        rcases hend with hend | ⟨hend1, hend⟩
        all_goals
          subst hend
          go_wp2_with (first
            | (go_at_call 15; refine (HALL.out _ (Rd.of_own HV.out)).mono ?_; rintro e w2 ⟨ga, gc, rfl, hg, hb2⟩; have HGA := Lib.hid hg; have HB2 := Lib.hid hb2; clear hg hb2)
            | (go_at_call 16; refine (HFIND.out _ ((Rd.of_own HV.out).below HB2.out)).mono ?_; rintro e w3 ⟨rfl, hb3⟩; have HG := Lib.hid (HGA.out.below hb3); have HW := Lib.hid (((Rd.of_own HU.out).below HB2.out).below hb3); have H3 := Lib.hid (((HTR.out).below HB2.out).below hb3); have H4 := Lib.hid ((HBR.out.trans (HB2.out.mono HBR.out.size)).trans (hb3.mono (Nat.le_trans HBR.out.size HB2.out.size))); clear hb3; obtain ⟨b3, o3, e3, c3⟩ := HW.out.at (by simp); have p3 := c3 0 (.int .u64 (X : Int)) rfl; rw [Nat.add_zero] at p3; subst e3; clear c3))
          go_loopw [13] (fun i wq => ∃ j : Nat, j ≤ (X :: r).length ∧ i = .int .i64 j ∧ Hid (Below w3.heap.size w3 wq)) (fun i _ => (X :: r).length - (intOf i).toNat)
          case atStart => exact ⟨0, Nat.zero_le _, rfl, Lib.hid (Below.refl _ _)⟩
          case round =>
            obtain ⟨j, hj, rfl, HBQ⟩ := hrel
            by_cases hjl : j < (X :: r).length
            · have hjn : j < r.length + 1 := by simpa using hjl
              have hjl2 : (j : Int) < (r.length : Int) + 1 := by omega
              have hjl3 : decide ((j : Int) < (r.length : Int) + 1) = true := decide_eq_true hjl2
              obtain ⟨b1, o1, e1, c1⟩ := (HG.out.below HBQ.out).at (by simp)
              obtain ⟨b2, o2, e2, c2⟩ := (HW.out.below HBQ.out).at (by simp)
              obtain ⟨z, hz⟩ : ∃ z, z = (X :: r)[j] := ⟨_, rfl⟩
              have p1 : wr.cell? ⟨b1, o1 + j, none⟩ = some (.int .u64 (z : Int)) := c1 j _ (by rw [List.getElem?_map, List.getElem?_eq_getElem hjl, ← hz]; rfl)
              have p2 : wr.cell? ⟨b2, o2 + j, none⟩ = some (.int .u64 (z : Int)) := c2 j _ (by rw [List.getElem?_map, List.getElem?_eq_getElem hjl, ← hz]; rfl)
              have hbb1 : b1 < wr.heap.size := cell_lt p1
              have hbb2 : b2 < wr.heap.size := cell_lt p2
              clear c1 c2 hz
              subst e1
              have e2b : b3 = b2 ∧ o3 = o2 := by simpa using e2
              obtain ⟨rfl, rfl⟩ := e2b
              clear e2
              go_wp2
              go_quiet (fail)
              go_wp2
              exact ⟨⟨j + 1, by omega, by go_num, Lib.hid (Go.below_drewN HBQ.out _)⟩, by simp [intOf]; simp at hjl; omega⟩
            · obtain rfl : j = (X :: r).length := by omega
              have HTT := Lib.hid (H3.out.below HBQ.out)
              have HBT := Lib.hid (H4.out.trans (HBQ.out.mono H4.out.size))
              clear HBQ
              go_wp2_with (first
                | (go_at_call 17; have hh := ht4; refine (C5.out _ ht4.out).mono ?_; rintro e x5 ⟨rfl, hx5⟩; have hu5 := Lib.hid (hu4.out.trans (hx5.mono hu4.out.size)); clear hx5)
                | (go_at_call 17; have hh := ht3; refine (C24.out _ ht3.out).mono ?_; rintro e x4 ⟨rfl, hx4⟩; have ht4 := Lib.hid (ht3.out.below hx4); have hu4 := Lib.hid (hu3.out.trans (hx4.mono hu3.out.size)); clear hx4)
                | (go_at_call 17; have hh := ht2; refine (C1.out _ ht2.out).mono ?_; rintro e x3 ⟨rfl, hx3⟩; have ht3 := Lib.hid (ht2.out.below hx3); have hu3 := Lib.hid (hu2.out.trans (hx3.mono hu2.out.size)); clear hx3)
                | (go_at_call 17; have hh := ht1; refine (CB.out _ ht1.out).mono ?_; rintro e x2 ⟨rfl, hx2⟩; have ht2 := Lib.hid (ht1.out.below hx2); have hu2 := Lib.hid (hu1.out.trans (hx2.mono hu1.out.size)); clear hx2)
                | (go_at_call 17; refine (CA.out _ HTT.out).mono ?_; rintro e x1 ⟨rfl, hx1⟩; have ht1 := Lib.hid (HTT.out.below hx1); have hu1 := Lib.hid (HBT.out.trans (hx1.mono HBT.out.size)); clear hx1))
              go_ret
              exact ⟨rfl, hu5.out⟩
end Go.Proofs.YtcfbdnlbgcoicaaDoor

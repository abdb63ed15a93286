/- Contracts over this translation, plans' models: made. -/
import Derived.Test.YtkbamfiokhmpjaaDoorXKdM17E
import Derived.Test.YtkbamfiokhmpjaaDoorXKdM17T
import Derived.BigRegion
import Derived.Deep.DeepCutAuto
namespace Go.Proofs.YtkbamfiokhmpjaaDoor
set_option linter.unusedVariables false
set_option linter.unusedSimpArgs false
open Go.RowKit Go.Proofs.YtkbamfiokhmpjaaDoorX.Kd Go.Proofs.YtkbamfiokhmpjaaDoorW.PrintWords Go.Proofs.YtkbamfiokhmpjaaDoorW.PrintLast Go.Proofs.YtkbamfiokhmpjaaDoorW.PrintMore
attribute [local go_sem] max2_int min2_int max_two min_two

set_option maxRecDepth 100000 in
set_option maxHeartbeats 16000000 in
theorem made_any (fl : Int) (ps : List S70) (ys : List S72) (rs : List S78) (ds : List ByteArray) (hps : ∀ x ∈ ps, x.f0.size ≤ 9223372036854775807 ∧ x.f4.size ≤ 9223372036854775807) (hys : ∀ x ∈ ys, x.f0.size ≤ 9223372036854775807) (a1 a2 a3 a4 : Option Addr) (c1 c2 c3 c4 : Nat) (w : World) (h1 : Kd.C k70 w a1 ps.length ps) (h2 : Kd.C k72 w a2 ys.length ys) (h3 : Kd.C k78 w a3 rs.length rs) (h4 : Kd.C Kd.string w a4 ds.length ds) :
    Calls Tryd.prog 7 #[.agg #[.int .i64 fl, .slice a1 ps.length c1, .slice a2 ys.length c2, .slice a3 rs.length c3, .slice a4 ds.length c4]] w fun e w' => ∃ v9 v10, e = .returned (.agg #[.bool (flagB fl 2), .bool (flagB fl 1), .int .u8 3, .int .u8 0, .int .u64 1, .int .u64 243, .int .u64 16, .int .u64 5, .int .u64 1, v9, v10]) ∧ Kd.R k61 61 w' w.heap.size (fun _ => True) v9 (madeSecs fl ps ys rs) ∧ Kd.R k82 82 w' w.heap.size (fun _ => True) v10 (segsR ds) ∧ Below w.heap.size w w' := by
  have H1 := Lib.hid h1
  have H2 := Lib.hid h2
  have H3 := Lib.hid h3
  have H4 := Lib.hid h4
  clear h1 h2 h3 h4
  obtain ⟨wide, hwide⟩ : ∃ wide, wide = flagB fl 2 := ⟨_, rfl⟩
  obtain ⟨big, hbig⟩ : ∃ big, big = flagB fl 1 := ⟨_, rfl⟩
  rw [← hwide, ← hbig]
  have HWD := Lib.hid hwide
  have HBG := Lib.hid hbig
  have e0 : (bits .and .i64 fl 2 == 2) = wide := hwide.symm
  have e1 : (bits .and .i64 fl 1 == 1) = big := hbig.symm
  clear hwide hbig
  go_enter Tryd.func7, Tryd.ntmps7
  go_upto_region 1 with (fail)
  obtain ⟨wA, hwA⟩ : ∃ wA, wA = (w.alloc (.cells #[.int .i64 fl, .slice a1 ps.length c1, .slice a2 ys.length c2, .slice a3 rs.length c3, .slice a4 ds.length c4] 27)).alloc (.cells #[.bool false, .bool false, .int .u8 0, .int .u8 0, .int .u64 0, .int .u64 0, .int .u64 0, .int .u64 0, .int .u64 0, .slice none 0 0, .slice none 0 0] 34) := ⟨_, rfl⟩
  have HA := Lib.hid (show Below w.heap.size w wA from by rw [hwA]; exact ((Below.refl _ _).alloc (Nat.le_refl _) _).alloc (by simp) _)
  have HPA := Lib.hid (show wA.heap[w.heap.size]? = some (.cells #[.int .i64 fl, .slice a1 ps.length c1, .slice a2 ys.length c2, .slice a3 rs.length c3, .slice a4 ds.length c4] 27 (0, 0)) by rw [hwA]; exact blk_alloc (blk_new w _) _)
  have HRA := Lib.hid (show wA.heap[w.heap.size + 1]? = some (.cells #[.bool false, .bool false, .int .u8 0, .int .u8 0, .int .u64 0, .int .u64 0, .int .u64 0, .int .u64 0, .int .u64 0, .slice none 0 0, .slice none 0 0] 34 (0, 0)) by
    have h := blk_new (w.alloc (.cells #[.int .i64 fl, .slice a1 ps.length c1, .slice a2 ys.length c2, .slice a3 rs.length c3, .slice a4 ds.length c4] 27)) (.cells #[.bool false, .bool false, .int .u8 0, .int .u8 0, .int .u64 0, .int .u64 0, .int .u64 0, .int .u64 0, .int .u64 0, .slice none 0 0, .slice none 0 0] 34)
    rw [World.size_alloc] at h
    rw [hwA]; exact h)
  have hszA : w.heap.size + 2 ≤ wA.heap.size := by rw [hwA]; simp
  rw [← hwA]
  clear hwA
  have HPC := Lib.hid (show ∀ W, Below wA.heap.size wA W → W.cell? ⟨w.heap.size, 0, none⟩ = some (.int .i64 fl) ∧ W.cell? ⟨w.heap.size, 1, none⟩ = some (.slice a1 ps.length c1) ∧ W.cell? ⟨w.heap.size, 2, none⟩ = some (.slice a2 ys.length c2) ∧ W.cell? ⟨w.heap.size, 3, none⟩ = some (.slice a3 rs.length c3) ∧ W.cell? ⟨w.heap.size, 4, none⟩ = some (.slice a4 ds.length c4) from fun W hb => ⟨blk_cell (blk_below HPA.out hb) 0, blk_cell (blk_below HPA.out hb) 1, blk_cell (blk_below HPA.out hb) 2, blk_cell (blk_below HPA.out hb) 3, blk_cell (blk_below HPA.out hb) 4⟩)
  have HSC := Lib.hid (fun W (hb : Below wA.heap.size wA W) => sections_any fl ps hps a1 c1 (.slice a2 ys.length c2) (.slice a3 rs.length c3) (.slice a4 ds.length c4) W (Kd.C_below H1.out (HA.out.trans (hb.mono HA.out.size))))
  go_cut [3] (fun s3 wx => ∃ m v9, s3 = .pointer (some ⟨m, 0, none⟩) ∧ Hid (MSt w wx m wide big #[.int .i64 fl, .slice a1 ps.length c1, .slice a2 ys.length c2, .slice a3 rs.length c3, .slice a4 ds.length c4] #[.bool false, .bool false, .int .u8 0, .int .u8 0, .int .u64 0, .int .u64 0, .int .u64 0, .int .u64 0, .int .u64 0, .slice none 0 0, .slice none 0 0] (fun _ => True) v9 (sectionsR ps) (.slice none 0 0)))
  case first =>
    go_region_held3 (fun W => W.cell? ⟨w.heap.size, 0, none⟩ = some (.int .i64 fl) ∧ W.cell? ⟨w.heap.size, 1, none⟩ = some (.slice a1 ps.length c1) ∧ W.cell? ⟨w.heap.size, 2, none⟩ = some (.slice a2 ys.length c2) ∧ W.cell? ⟨w.heap.size, 3, none⟩ = some (.slice a3 rs.length c3) ∧ W.cell? ⟨w.heap.size, 4, none⟩ = some (.slice a4 ds.length c4))
      (exact HPC.out _ (by repeat (first | with_reducible exact Below.refl _ _ | with_reducible assumption | with_reducible apply below_alloc | with_reducible apply pw_below_drewN | with_reducible apply below_drew1 | with_reducible refine Below.setCell ?_ (by show wA.heap.size ≤ wA.heap.size; exact Nat.le_refl _) _)))
      (first | (go_at_call 14; refine (HSC.out _ (by repeat (first | with_reducible exact Below.refl _ _ | with_reducible assumption | with_reducible apply below_alloc | with_reducible apply pw_below_drewN | with_reducible apply below_drew1 | with_reducible refine Below.setCell ?_ (by show wA.heap.size ≤ wA.heap.size; exact Nat.le_refl _) _))).mono ?_; rintro e w4 ⟨v9, rfl, hR4, hB4⟩; obtain ⟨A9, c9, rfl⟩ := Kd.R_slice hR4; have hA4 := (fun h => Below.trans h (Below.mono hB4 (Below.size h)) : Below wA.heap.size wA _ → Below wA.heap.size wA w4) (by repeat (first | with_reducible exact Below.refl _ _ | with_reducible assumption | with_reducible apply below_alloc | with_reducible apply pw_below_drewN | with_reducible apply below_drew1 | with_reducible refine Below.setCell ?_ (by show wA.heap.size ≤ wA.heap.size; exact Nat.le_refl _) _)); (first | (have xb : w4.heap[wA.heap.size]? = some (.cells #[.bool false, .bool false, .int .u8 0, .int .u8 0, .int .u64 0, .int .u64 0, .int .u64 0, .int .u64 0, .int .u64 0, .slice none 0 0, .slice none 0 0] 34 (0, 0)) := blk_below (by exact blk_new wA _) hB4; have x0 := Lib.cell_of_heap xb 0; have xf0 := Lib.frozen_of_heap xb 0; have x1 := Lib.cell_of_heap xb 1; have xf1 := Lib.frozen_of_heap xb 1; have x2 := Lib.cell_of_heap xb 2; have xf2 := Lib.frozen_of_heap xb 2; have x3 := Lib.cell_of_heap xb 3; have xf3 := Lib.frozen_of_heap xb 3; have x4 := Lib.cell_of_heap xb 4; have xf4 := Lib.frozen_of_heap xb 4; have x5 := Lib.cell_of_heap xb 5; have xf5 := Lib.frozen_of_heap xb 5; have x6 := Lib.cell_of_heap xb 6; have xf6 := Lib.frozen_of_heap xb 6; have x7 := Lib.cell_of_heap xb 7; have xf7 := Lib.frozen_of_heap xb 7; have x8 := Lib.cell_of_heap xb 8; have xf8 := Lib.frozen_of_heap xb 8; have x9 := Lib.cell_of_heap xb 9; have xf9 := Lib.frozen_of_heap xb 9; have x10 := Lib.cell_of_heap xb 10; have xf10 := Lib.frozen_of_heap xb 10; (try simp only [List.getElem?_toArray, List.getElem?_cons_succ, List.getElem?_cons_zero] at x0 x1 x2 x3 x4 x5 x6 x7 x8 x9 x10)) | skip)))
    all_goals (go_wp2_with fail; go_meet)
    all_goals first
      | have hxb := xb
        refine ⟨wA.heap.size, .slice A9 (sectionsR ps).length c9, rfl, Lib.hid ?_⟩
        unfold MSt
        refine ⟨?_, Kd.R_mono (ok := fun k => k ≠ wA.heap.size) ?_ (fun _ _ => trivial), ?_, ?_, ?_, hszA⟩
        · have xb := blk_put xb 0 (.bool wide) (cs' := #[.bool wide, .bool false, .int .u8 0, .int .u8 0, .int .u64 0, .int .u64 0, .int .u64 0, .int .u64 0, .int .u64 0, .slice none 0 0, .slice none 0 0]) rfl
          have xb := blk_put xb 1 (.bool big) (cs' := #[.bool wide, .bool big, .int .u8 0, .int .u8 0, .int .u64 0, .int .u64 0, .int .u64 0, .int .u64 0, .int .u64 0, .slice none 0 0, .slice none 0 0]) rfl
          have xb := blk_put xb 2 (.int .u8 3) (cs' := #[.bool wide, .bool big, .int .u8 3, .int .u8 0, .int .u64 0, .int .u64 0, .int .u64 0, .int .u64 0, .int .u64 0, .slice none 0 0, .slice none 0 0]) rfl
          have xb := blk_put xb 3 (.int .u8 0) (cs' := #[.bool wide, .bool big, .int .u8 3, .int .u8 0, .int .u64 0, .int .u64 0, .int .u64 0, .int .u64 0, .int .u64 0, .slice none 0 0, .slice none 0 0]) rfl
          have xb := blk_put xb 4 (.int .u64 1) (cs' := #[.bool wide, .bool big, .int .u8 3, .int .u8 0, .int .u64 1, .int .u64 0, .int .u64 0, .int .u64 0, .int .u64 0, .slice none 0 0, .slice none 0 0]) rfl
          have xb := blk_put xb 5 (.int .u64 243) (cs' := #[.bool wide, .bool big, .int .u8 3, .int .u8 0, .int .u64 1, .int .u64 243, .int .u64 0, .int .u64 0, .int .u64 0, .slice none 0 0, .slice none 0 0]) rfl
          have xb := blk_put xb 6 (.int .u64 16) (cs' := #[.bool wide, .bool big, .int .u8 3, .int .u8 0, .int .u64 1, .int .u64 243, .int .u64 16, .int .u64 0, .int .u64 0, .slice none 0 0, .slice none 0 0]) rfl
          have xb := blk_put xb 7 (.int .u64 5) (cs' := #[.bool wide, .bool big, .int .u8 3, .int .u8 0, .int .u64 1, .int .u64 243, .int .u64 16, .int .u64 5, .int .u64 0, .slice none 0 0, .slice none 0 0]) rfl
          have xb := blk_put xb 8 (.int .u64 1) (cs' := #[.bool wide, .bool big, .int .u8 3, .int .u8 0, .int .u64 1, .int .u64 243, .int .u64 16, .int .u64 5, .int .u64 1, .slice none 0 0, .slice none 0 0]) rfl
          have xb := blk_put xb 9 (.slice A9 (sectionsR ps).length c9) (cs' := #[.bool wide, .bool big, .int .u8 3, .int .u8 0, .int .u64 1, .int .u64 243, .int .u64 16, .int .u64 5, .int .u64 1, .slice A9 (sectionsR ps).length c9, .slice none 0 0]) rfl
          have xb := blk_put xb 10 (.slice none 0 0) (cs' := #[.bool wide, .bool big, .int .u8 3, .int .u8 0, .int .u64 1, .int .u64 243, .int .u64 16, .int .u64 5, .int .u64 1, .slice A9 (sectionsR ps).length c9, .slice none 0 0]) rfl
          exact xb
        · have hR5 : Kd.R k61 61 w4 (wA.heap.size + 1) (fun _ => True) (.slice A9 (sectionsR ps).length c9) (sectionsR ps) := by
            have hsz : wA.heap.size + 1 ≤ w4.heap.size := blk_lt xb
            clear xb hxb
            simpa only [World.drew, World.size_alloc] using hR4
          have hR6 := Kd.R_lower (Kd.R_mono (ok' := fun k => k ≠ wA.heap.size) (Kd.R_bound hR5) (fun k hk he => by have h := hk.2.1; rw [he] at h; omega)) (show w.heap.size ≤ wA.heap.size + 1 by omega)
          clear hR4 hR5
          (repeat (refine Kd.R_far ?_ (fun k hk => hk) _))
          exact hR6
        · (repeat (refine Below.setCell ?_ (by show w.heap.size ≤ wA.heap.size; omega) _))
          exact HA.out.trans (hA4.mono HA.out.size)
        · (repeat (refine blk_far ?_ (by show w.heap.size ≠ wA.heap.size; omega) _))
          exact blk_below HPA.out hA4
        · (repeat (refine blk_far ?_ (by show w.heap.size + 1 ≠ wA.heap.size; omega) _))
          exact blk_below HRA.out hA4
      | exact ⟨_, _, rfl, Lib.hid ⟨blk_new w4 _, Kd.R_alloc (Kd.R_lower hR4 (by show w.heap.size ≤ wA.heap.size; omega)) _, (HA.out.trans (hA4.mono HA.out.size)).alloc (Nat.le_trans HA.out.size hA4.size) _, blk_alloc (blk_below HPA.out hA4) _, blk_alloc (blk_below HRA.out hA4) _, Nat.le_trans hszA hA4.size⟩⟩
  case rest =>
    clear HPC HSC
    obtain ⟨m, v9, rfl, HM⟩ := hcut
    obtain ⟨A9, c9, rfl⟩ := Kd.R_slice HM.out.2.1
    have HN := Lib.hid (sectionsR_len ps)
    obtain ⟨S0, hS0⟩ : ∃ S0, S0 = sectionsR ps := ⟨_, rfl⟩
    rw [← hS0] at HM HN
    have HS0 := Lib.hid hS0
    clear hS0
    obtain ⟨z1, z2, z3, hz⟩ : ∃ z1 z2 z3, sizesR wide = (z1, z2, z3) := ⟨_, _, _, rfl⟩
    have HSZ := Lib.hid (fun W => by have h := sizes_any wide W; rw [hz] at h; exact h)
    have HZ := Lib.hid hz
    have q0 := blk_cell HM.out.1 0
    simp only [List.getElem?_toArray, List.getElem?_cons_succ, List.getElem?_cons_zero] at q0
    have hn8 := HN.out.2
    have hn2 := HN.out.1
    have hw1 : IntKind.u64.wrap (S0.length : Int) = (S0.length : Int) := by rw [IntKind.wrap_u64]; omega
    have hw2 : IntKind.u64.wrap ((S0.length : Int) - 1) = (S0.length : Int) - 1 := by rw [IntKind.wrap_u64]; omega
    clear hz
    go_upto_if 44 with (first | (go_at_call 15; refine (HSZ.out _).mono ?_; rintro e w5 ⟨rfl, hb5⟩; have HM5 := Lib.hid (HM.out.below hb5); have q9 := blk_cell HM5.out.1 9; have p2 := blk_cell HM5.out.2.2.2.1 2; simp only [List.getElem?_toArray, List.getElem?_cons_succ, List.getElem?_cons_zero] at q9 p2))
    go_cut [] (fun wx => ∃ v : Value, Hid (MSt w wx m wide big #[.int .i64 fl, .slice a1 ps.length c1, .slice a2 ys.length c2, .slice a3 rs.length c3, .slice a4 ds.length c4] #[.bool false, .bool false, .int .u8 0, .int .u8 0, .int .u64 0, .int .u64 0, .int .u64 0, .int .u64 0, .int .u64 0, .slice none 0 0, .slice none 0 0] (fun _ => True) v (S0 ++ (if 0 < ys.length then moreSecs fl S0.length ys rs else [])) (.slice none 0 0)))
    case first =>
      by_cases hy : 0 < ys.length
      · refine wp_cond_true (by first | exact congrArg Value.bool (decide_eq_true hy) | exact congrArg Value.bool (decide_eq_true (by omega : (0 : Int) < (ys.length : Int)))) ?_
        refine made_then fl ps ys rs ds hys a1 a2 a3 a4 A9 c1 c2 c3 c4 c9 w w5 m wide big S0 hn8 hn2 z1 z2 z3 HWD.out HZ.out H2.out H3.out HM5.out _ _ _ _ _ _ _ _ _ _ _ _ _ _ _ _ _ _ _ _ _ _ _ _ _ _ _ _ _ _ _ _ _ _ _ _ _ _ _ _ _ _ _ _ _ _ _ _ _ _ _ _ _ _ _ _ _ _ _ _ _ _ _ _ _ _ _ _ _ _ _ _ _ _ _ _ _ _ _ _ _ _ _ _ _ _ _ _ _ _ _ _ _ _ _ _ _ _ _ _ _ _ _ _ _ _ _ _ _ _ _ _ _ _ _ _ _ _ _ _ _ _ _ _ _ _ _ _ _ _ _ _ _ _ _ _ _ _ _ _ _ _ _ _ _ _ _ _ _ _ _ _ _ _ _ _ _ _ _ _ _ _ _ _ _ _ _ _ _ _ _ _ _ _ _ _ _ _ _ _ _ _ _ _ _ _ _ _ _ _ _ _ _ _ _ _ _ _ _ _ _ _ _ _ _ _ _ _ _ _ _ _ _ ?_
        intro s9 s10 s11 s12 s13 s14 s15 s45 s46 s47 s48 s49 s50 s51 s52 s53 s54 s55 s56 s57 s58 s59 s60 s61 s62 s63 s64 s65 s66 s67 s68 s69 s70 s71 s72 s73 s74 s75 s76 s77 s78 s79 s80 s81 s82 s83 s84 s85 s86 s87 s88 s89 s90 s91 s92 s93 s94 s95 s96 s97 s98 s99 s100 s101 s102 s103 s104 s105 s106 s107 s108 s109 s110 s111 s112 s113 s114 s115 s116 s117 s118 s119 s120 s121 s122 s123 s124 s125 s126 s127 s128 s129 s130 s131 s132 s133 s134 s135 s136 s137 s138 s139 s140 s141 s142 s143 s144 s145 s146 s147 s148 s149 s150 s151 s152 s153 s154 s155 s156 s157 s158 s159 s160 s161 s162 s163 s164 s165 s166 s167 s168 s169 s170 s171 s172 s173 s174 s175 s176 s177 s178 s179 s180 s181 s182 v wF hF
        go_wp2_with fail
        go_meet
        case rel => exact ⟨v, Lib.hid (by rw [if_pos hy]; exact hF)⟩
      · have HNY := Lib.hid hy
        refine wp_cond_false (by first | exact congrArg Value.bool (decide_eq_false hy) | exact congrArg Value.bool (decide_eq_false (by omega : ¬ (0 : Int) < (ys.length : Int)))) ?_
        clear hy
        go_wp2_with fail
        go_meet
        case rel => exact ⟨_, Lib.hid (by rw [if_neg HNY.out, List.append_nil]; exact HM5.out)⟩
    case rest =>
      obtain ⟨vA, HMA⟩ := hcut
      have hL : madeSecs fl ps ys rs = S0 ++ (if 0 < ys.length then moreSecs fl S0.length ys rs else []) := by unfold madeSecs; rw [← HS0.out]
      rw [← hL] at HMA
      clear hL
      obtain ⟨AA, cA, rfl⟩ := Kd.R_slice HMA.out.2.1
      refine (by assumption : ∀ (a : Act) (w : World), Code.wp _ _ _ a w → _) _ _ ?_
      exact made_tail fl ds ps.length ys.length rs.length a1 a2 a3 a4 AA c1 c2 c3 c4 cA w _ m wide big (madeSecs fl ps ys rs) H4.out HMA.out _ _ _ _ _ _ _ _ _ _ _ _ _ _ _ _ _ _ _ _ _ _ _ _ _ _ _ _ _ _ _ _ _ _ _ _ _ _ _ _ _ _ _ _ _ _ _ _ _ _ _ _ _ _ _ _ _ _ _ _ _ _ _ _ _ _ _ _ _ _ _ _ _ _ _ _ _ _ _ _ _ _ _ _ _ _ _ _ _ _ _ _ _ _ _ _ _ _ _ _ _ _ _ _ _ _ _ _ _ _ _ _ _ _ _ _ _ _ _ _ _ _ _ _ _ _ _ _ _ _ _ _ _ _ _ _ _ _ _ _ _ _ _ _ _ _ _ _ _ _ _ _ _ _ _ _ _ _ _ _ _ _ _ _ _ _ _ _ _ _ _ _ _ _ _ _ _ _ _ _ _ _ _ _ _ _ _ _ _ _ _ _ _ _ _ _ _ _ _ _ _ _ _ _ _ _ _ _ _ _ _ _ _ _ _ _ _
end Go.Proofs.YtkbamfiokhmpjaaDoor

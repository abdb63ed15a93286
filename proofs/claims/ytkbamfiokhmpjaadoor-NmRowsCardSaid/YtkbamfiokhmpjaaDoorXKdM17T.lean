/- Contracts over this translation, plans' models: made's block of symbols. -/
import Derived.Test.YtkbamfiokhmpjaaDoorXKdM17H
import Derived.Deep.CutRange
namespace Go.Proofs.YtkbamfiokhmpjaaDoor
set_option linter.unusedVariables false
set_option linter.unusedSimpArgs false
open Go.RowKit Go.Proofs.YtkbamfiokhmpjaaDoorX.Kd Go.Proofs.YtkbamfiokhmpjaaDoorW.PrintWords Go.Proofs.YtkbamfiokhmpjaaDoorW.PrintLast Go.Proofs.YtkbamfiokhmpjaaDoorW.PrintMore
attribute [local go_sem] max2_int min2_int max_two min_two
/-- The block of made's symbols. -/
noncomputable def madeThen : Code := thenC (sndC (fstC (sndC (sndC (sndC (sndC (sndC madeCode)))))))
set_option maxRecDepth 100000 in
set_option maxHeartbeats 16000000 in
theorem made_then (fl : Int) (ps : List S70) (ys : List S72) (rs : List S78) (ds : List ByteArray) (hys : ∀ x ∈ ys, x.f0.size ≤ 9223372036854775807) (a1 a2 a3 a4 A9 : Option Addr) (c1 c2 c3 c4 c9 : Nat) (w w5 : World) (m : Nat) (wide big : Bool) (S0 : List S61) (hn8 : S0.length ≤ 8) (hn2 : 2 ≤ S0.length) (z1 z2 z3 : Int) (hwide : wide = flagB fl 2) (hz : sizesR wide = (z1, z2, z3)) (h2 : Kd.C k72 w a2 ys.length ys) (h3 : Kd.C k78 w a3 rs.length rs) (hm5 : MSt w w5 m wide big #[.int .i64 fl, .slice a1 ps.length c1, .slice a2 ys.length c2, .slice a3 rs.length c3, .slice a4 ds.length c4] #[.bool false, .bool false, .int .u8 0, .int .u8 0, .int .u64 0, .int .u64 0, .int .u64 0, .int .u64 0, .int .u64 0, .slice none 0 0, .slice none 0 0] (fun _ => True) (.slice A9 S0.length c9) (S0) (.slice none 0 0))
    (u9 u10 u11 u12 u13 u14 u15 u16 u17 u18 u19 u20 u21 u22 u23 u24 u25 u26 u27 u28 u29 u30 u31 u32 u33 u34 u35 u36 u37 u38 u39 u40 u41 u42 u43 u44 u45 u46 u47 u48 u49 u50 u51 u52 u53 u54 u55 u56 u57 u58 u59 u60 u61 u62 u63 u64 u65 u66 u67 u68 u69 u70 u71 u72 u73 u74 u75 u76 u77 u78 u79 u80 u81 u82 u83 u84 u85 u86 u87 u88 u89 u90 u91 u92 u93 u94 u95 u96 u97 u98 u99 u100 u101 u102 u103 u104 u105 u106 u107 u108 u109 u110 u111 u112 u113 u114 u115 u116 u117 u118 u119 u120 u121 u122 u123 u124 u125 u126 u127 u128 u129 u130 u131 u132 u133 u134 u135 u136 u137 u138 u139 u140 u141 u142 u143 u144 u145 u146 u147 u148 u149 u150 u151 u152 u153 u154 u155 u156 u157 u158 u159 u160 u161 u162 u163 u164 u165 u166 u167 u168 u169 u170 u171 u172 u173 u174 u175 u176 u177 u178 u179 u180 u181 u182 u183 u184 u185 u186 u187 u188 u189 u190 u191 u192 u193 u194 u195 u196 u197 u198 u199 u200 u201 u202 u203 u204 u205 u206 u207 u208 u209 u210 u211 u212 u213 u214 u215 u216 u217 u218 u219 : Value) (K : Act → World → Prop) (Q' : Exit → Act → World → Prop) (hK : ∀ (s9 s10 s11 s12 s13 s14 s15 s45 s46 s47 s48 s49 s50 s51 s52 s53 s54 s55 s56 s57 s58 s59 s60 s61 s62 s63 s64 s65 s66 s67 s68 s69 s70 s71 s72 s73 s74 s75 s76 s77 s78 s79 s80 s81 s82 s83 s84 s85 s86 s87 s88 s89 s90 s91 s92 s93 s94 s95 s96 s97 s98 s99 s100 s101 s102 s103 s104 s105 s106 s107 s108 s109 s110 s111 s112 s113 s114 s115 s116 s117 s118 s119 s120 s121 s122 s123 s124 s125 s126 s127 s128 s129 s130 s131 s132 s133 s134 s135 s136 s137 s138 s139 s140 s141 s142 s143 s144 s145 s146 s147 s148 s149 s150 s151 s152 s153 s154 s155 s156 s157 s158 s159 s160 s161 s162 s163 s164 s165 s166 s167 s168 s169 s170 s171 s172 s173 s174 s175 s176 s177 s178 s179 s180 s181 s182 : Value) (v : Value) (wF : World), MSt w wF m wide big #[.int .i64 fl, .slice a1 ps.length c1, .slice a2 ys.length c2, .slice a3 rs.length c3, .slice a4 ds.length c4] #[.bool false, .bool false, .int .u8 0, .int .u8 0, .int .u64 0, .int .u64 0, .int .u64 0, .int .u64 0, .int .u64 0, .slice none 0 0, .slice none 0 0] (fun _ => True) (v) (S0 ++ moreSecs fl S0.length ys rs) (.slice none 0 0) → K ⟨#[.agg #[.int .i64 fl, .slice a1 ps.length c1, .slice a2 ys.length c2, .slice a3 rs.length c3, .slice a4 ds.length c4], .pointer (some ⟨w.heap.size, 0, none⟩), .pointer (some ⟨w.heap.size + 1, 0, none⟩), .pointer (some ⟨m, 0, none⟩), .int .u64 z1, .int .u64 z2, .int .u64 z3, .int .u64 (S0.length : Int), .int .u64 ((S0.length : Int) - 1), s9, s10, s11, s12, s13, s14, s15, u16, u17, u18, u19, u20, u21, u22, u23, u24, u25, u26, u27, u28, u29, u30, u31, u32, u33, u34, u35, u36, u37, u38, u39, u40, u41, u42, u43, u44, s45, s46, s47, s48, s49, s50, s51, s52, s53, s54, s55, s56, s57, s58, s59, s60, s61, s62, s63, s64, s65, s66, s67, s68, s69, s70, s71, s72, s73, s74, s75, s76, s77, s78, s79, s80, s81, s82, s83, s84, s85, s86, s87, s88, s89, s90, s91, s92, s93, s94, s95, s96, s97, s98, s99, s100, s101, s102, s103, s104, s105, s106, s107, s108, s109, s110, s111, s112, s113, s114, s115, s116, s117, s118, s119, s120, s121, s122, s123, s124, s125, s126, s127, s128, s129, s130, s131, s132, s133, s134, s135, s136, s137, s138, s139, s140, s141, s142, s143, s144, s145, s146, s147, s148, s149, s150, s151, s152, s153, s154, s155, s156, s157, s158, s159, s160, s161, s162, s163, s164, s165, s166, s167, s168, s169, s170, s171, s172, s173, s174, s175, s176, s177, s178, s179, s180, s181, s182, u183, u184, u185, u186, u187, u188, u189, u190, u191, u192, u193, u194, u195, u196, u197, u198, u199, u200, u201, u202, u203, u204, u205, u206, u207, u208, u209, u210, u211, u212, u213, u214, u215, u216, u217, u218, u219], []⟩ wF) :
    Code.wp Tryd.prog madeThen (Exit.then K Q') ⟨#[.agg #[.int .i64 fl, .slice a1 ps.length c1, .slice a2 ys.length c2, .slice a3 rs.length c3, .slice a4 ds.length c4], .pointer (some ⟨w.heap.size, 0, none⟩), .pointer (some ⟨w.heap.size + 1, 0, none⟩), .pointer (some ⟨m, 0, none⟩), .int .u64 z1, .int .u64 z2, .int .u64 z3, .int .u64 (S0.length : Int), .int .u64 ((S0.length : Int) - 1), u9, u10, u11, u12, u13, u14, u15, u16, u17, u18, u19, u20, u21, u22, u23, u24, u25, u26, u27, u28, u29, u30, u31, u32, u33, u34, u35, u36, u37, u38, u39, u40, u41, u42, u43, u44, u45, u46, u47, u48, u49, u50, u51, u52, u53, u54, u55, u56, u57, u58, u59, u60, u61, u62, u63, u64, u65, u66, u67, u68, u69, u70, u71, u72, u73, u74, u75, u76, u77, u78, u79, u80, u81, u82, u83, u84, u85, u86, u87, u88, u89, u90, u91, u92, u93, u94, u95, u96, u97, u98, u99, u100, u101, u102, u103, u104, u105, u106, u107, u108, u109, u110, u111, u112, u113, u114, u115, u116, u117, u118, u119, u120, u121, u122, u123, u124, u125, u126, u127, u128, u129, u130, u131, u132, u133, u134, u135, u136, u137, u138, u139, u140, u141, u142, u143, u144, u145, u146, u147, u148, u149, u150, u151, u152, u153, u154, u155, u156, u157, u158, u159, u160, u161, u162, u163, u164, u165, u166, u167, u168, u169, u170, u171, u172, u173, u174, u175, u176, u177, u178, u179, u180, u181, u182, u183, u184, u185, u186, u187, u188, u189, u190, u191, u192, u193, u194, u195, u196, u197, u198, u199, u200, u201, u202, u203, u204, u205, u206, u207, u208, u209, u210, u211, u212, u213, u214, u215, u216, u217, u218, u219], []⟩ w5 := by
  conv => arg 2; whnf
  have HM5 := Lib.hid hm5
  have HK := Lib.hid hK
  have H2 := Lib.hid h2
  have H3 := Lib.hid h3
  have HWD := Lib.hid hwide
  have HZ := Lib.hid hz
  clear hm5 hK h2 h3 hwide hz
  have p0 := blk_cell HM5.out.2.2.2.1 0
  have q9 := blk_cell HM5.out.1 9
  simp only [List.getElem?_toArray, List.getElem?_cons_succ, List.getElem?_cons_zero] at q9
  simp only [List.getElem?_toArray, List.getElem?_cons_succ, List.getElem?_cons_zero] at p0
  obtain ⟨own, hown⟩ : ∃ own, own = (bits .and .i64 fl 4 == 0) := ⟨_, rfl⟩
  have HOWN := Lib.hid hown
  have eo : (bits .and .i64 fl 4 == 0) = own := hown.symm
  clear hown
  have hS168 : (S0.length + 1) * 168 ≤ 140737488355328 := by omega
  go_upto_if 48 with (fail)
  go_cut [9] from 45 to 54 (fun s9 wx => ∃ (v : Value) (link : Int), s9 = .int .u64 link ∧ Hid (link = (if own = true then (S0.length : Int) else 1)) ∧ Hid (MSt w wx m wide big #[.int .i64 fl, .slice a1 ps.length c1, .slice a2 ys.length c2, .slice a3 rs.length c3, .slice a4 ds.length c4] #[.bool false, .bool false, .int .u8 0, .int .u8 0, .int .u64 0, .int .u64 0, .int .u64 0, .int .u64 0, .int .u64 0, .slice none 0 0, .slice none 0 0] (fun _ => True) (v) (S0 ++ (if own = true then [strtabS] else [])) (.slice none 0 0)))
  case first =>
    cases own
    · go_wp2
      go_meet
      case rel => exact ⟨_, _, rfl, Lib.hid rfl, Lib.hid (by simpa using HM5.out)⟩
    · go_wp2_with (first | (at_builtin; refine Kd.R_append k61 (w0 := w) w.heap.size rfl (.tmp 50) (.tmp 52) 31 61 _ _ rfl Tryd.underlying31 info61 rfl (by decide) (by omega) (.slice A9 S0.length c9) S0 (strtabS) _ (fun _ => True) (fun _ => False) rfl (by first | rfl | (simp; done)) (k61_mkM _ _ _ _ (Kd.R_nil _ _ _ _ _) (Kd.R_nil _ _ _ _ _) (Kd.R_nil _ _ _ _ _)) (fun _ h => h.elim) (fun _ _ => trivial) HM5.out.2.1 HM5.out.2.2.1 HM5.out.2.2.1.size (by omega) ?_))
      intro v6 w6 hR6 hB6 hG6 hat6
      obtain ⟨A6, c6, rfl⟩ := Kd.R_slice hR6
      have hm6 := blk_grown HM5.out.1 hG6 (Kd.R_ne HM5.out.2.1 HM5.out.1 (by decide))
      have q96 := blk_cell hm6 9
      have z96 := blk_frozen hm6 9
      simp only [List.getElem?_toArray, List.getElem?_cons_succ, List.getElem?_cons_zero] at q96
      have HP6 := Lib.hid (MSt.put HM5.out hG6 hR6 hB6)
      clear hm6 hR6 hB6 hG6 hat6
      go_wp2
      go_meet
      case rel => exact ⟨_, _, rfl, Lib.hid rfl, Lib.hid (by simpa using HP6.out)⟩
  case rest =>
    obtain ⟨v6, link, rfl, HLK, HM6⟩ := hcut
    clear q9 p0 HM5 hS168
    obtain ⟨L1, hL1⟩ : ∃ L1, L1 = S0 ++ (if own = true then [strtabS] else []) := ⟨_, rfl⟩
    rw [← hL1] at HM6
    have hn9 : L1.length ≤ 9 ∧ L1.length = S0.length + (if own = true then 1 else 0) := by rw [hL1, List.length_append]; split <;> simp <;> omega
    have HL1 := Lib.hid hL1
    have HN9 := Lib.hid hn9.2
    have hn99 := hn9.1
    clear hL1 hn9
    obtain ⟨A6, c6, rfl⟩ := Kd.R_slice HM6.out.2.1
    have hwT : IntKind.u64.wrap (L1.length : Int) = (L1.length : Int) := by rw [IntKind.wrap_u64]; omega
    have q9 := blk_cell HM6.out.1 9
    have p0 := blk_cell HM6.out.2.2.2.1 0
    have p1 := blk_cell HM6.out.2.2.2.1 1
    have p2 := blk_cell HM6.out.2.2.2.1 2
    have p3 := blk_cell HM6.out.2.2.2.1 3
    have p4 := blk_cell HM6.out.2.2.2.1 4
    simp only [List.getElem?_toArray, List.getElem?_cons_succ, List.getElem?_cons_zero] at q9 p0 p1 p2 p3 p4
    obtain ⟨LS, hLS⟩ : ∃ LS, LS = symbolsR ys (S0.length : Int) := ⟨_, rfl⟩
    have hLS18 : 1 ≤ LS.length ∧ LS.length ≤ 17 := by
      have h1 : ∀ b k, (symsK ys (S0.length : Int) b k).length ≤ k := fun b k => by
        unfold symsK
        rw [List.length_map]
        exact Nat.le_trans (List.length_filter_le _ _) (by rw [List.length_take]; omega)
      have h2 := h1 0 8
      have h3 := h1 1 8
      rw [hLS]; unfold symbolsR
      rw [List.length_append, List.length_append, List.length_singleton]
      omega
    obtain ⟨loc, hloc⟩ : ∃ loc : Int, loc = ((locB ys (S0.length : Int) 2 : Nat) : Int) := ⟨_, rfl⟩
    have HSY := Lib.hid (fun W (hb : Below w.heap.size w W) => by have h := symbols_any fl ys (S0.length : Int) ⟨by omega, by omega⟩ hys a2 c2 (.slice a1 ps.length c1) (.slice a3 rs.length c3) (.slice a4 ds.length c4) W (Kd.C_below H2.out hb); rw [← hLS, ← hloc] at h; exact h)
    have HLS := Lib.hid hLS
    have HLOC := Lib.hid hloc
    clear hLS hloc
    have hl17 := hLS18.2
    have hl1 := hLS18.1
    clear hLS18
    have hS168 : (L1.length + 1) * 168 ≤ 140737488355328 := by omega
    go_wp2_with (first | (go_at_call 16; refine (HSY.out _ HM6.out.2.2.1).mono ?_; rintro e w7 ⟨vl, rfl, hRl, hBl⟩; obtain ⟨Al, cl, rfl⟩ := Kd.R_slice hRl; have HM7 := Lib.hid (HM6.out.below hBl); have HRl := Lib.hid (Kd.R_lower hRl HM6.out.2.2.1.size); clear hRl hBl; have q97 := blk_cell HM7.out.1 9; simp only [List.getElem?_toArray, List.getElem?_cons_succ, List.getElem?_cons_zero] at q97) | (at_builtin; refine Kd.R_append k61 (w0 := w) w.heap.size rfl (.tmp 67) (.tmp 73) 31 61 _ _ rfl Tryd.underlying31 info61 rfl (by decide) (by omega) (.slice A6 L1.length c6) L1 (symtabS link loc z1 LS) _ (fun _ => True) (fun k => True ∧ some k ≠ (Value.slice A6 L1.length c6).ownBlock) rfl (by first | rfl | (simp; done)) (k61_mkM _ _ _ _ (Kd.R_apart' HRl.out (Kd.R_typed HM7.out.2.1) (by decide)) (Kd.R_nil _ _ _ _ _) (Kd.R_nil _ _ _ _ _)) (fun k h => ⟨trivial, h.2⟩) (fun _ _ => trivial) HM7.out.2.1 HM7.out.2.2.1 HM7.out.2.2.1.size (by omega) ?_))
    intro v8 w8 hR8 hB8 hG8 hat8
    obtain ⟨A8, c8, rfl⟩ := Kd.R_slice hR8
    have hm8 := blk_grown HM7.out.1 hG8 (Kd.R_ne HM7.out.2.1 HM7.out.1 (by decide))
    have q98 := blk_cell hm8 9
    have z98 := blk_frozen hm8 9
    simp only [List.getElem?_toArray, List.getElem?_cons_succ, List.getElem?_cons_zero] at q98
    have HP8 := Lib.hid (MSt.put HM7.out hG8 hR8 hB8)
    clear hm8 hR8 hB8 hG8 hat8
    obtain ⟨L2, hL2⟩ : ∃ L2, L2 = L1 ++ [symtabS link loc z1 LS] := ⟨_, rfl⟩
    rw [← hL2] at HP8
    have hn10 : L2.length ≤ 10 := by rw [hL2, List.length_append, List.length_singleton]; omega
    rw [← hL2]
    have HL2 := Lib.hid hL2
    clear hL2
    have p38 := blk_cell HP8.out.2.2.2.1 3
    simp only [List.getElem?_toArray, List.getElem?_cons_succ, List.getElem?_cons_zero] at p38
    clear HM6 HSY q97 p0 p1 p2 p3 p4
    go_upto_if 79 with (fail)
    obtain ⟨w9, hw9⟩ : ∃ w9, w9 = w8.setCell ⟨m, 9, none⟩ (.slice A8 L2.length c8) := ⟨_, rfl⟩
    rw [← hw9] at HP8 ⊢
    clear hw9 p38 q98 z98
    obtain ⟨L3, hL3⟩ : ∃ L3, L3 = L2 ++ (if 0 < rs.length then [relS (flagB fl 8) (L1.length : Int) ((S0.length : Int) - 1) z2 z3 LS.length rs] else []) := ⟨_, rfl⟩
    have hn11 : L3.length ≤ 11 := by rw [hL3, List.length_append]; split <;> simp <;> omega
    have HL3 := Lib.hid hL3
    clear hL3
    go_cut [] from 76 to 154 (fun wx => ∃ v : Value, Hid (MSt w wx m wide big #[.int .i64 fl, .slice a1 ps.length c1, .slice a2 ys.length c2, .slice a3 rs.length c3, .slice a4 ds.length c4] #[.bool false, .bool false, .int .u8 0, .int .u8 0, .int .u64 0, .int .u64 0, .int .u64 0, .int .u64 0, .int .u64 0, .slice none 0 0, .slice none 0 0] (fun _ => True) (v) (L3) (.slice none 0 0)))
    case first =>
      by_cases hr : 0 < rs.length
      · refine wp_cond_true (by first | exact congrArg Value.bool (decide_eq_true hr) | exact congrArg Value.bool (decide_eq_true (by omega : (0 : Int) < (rs.length : Int)))) ?_
        refine made_rel fl rs ps.length ys.length ds.length a1 a2 a3 a4 A8 Al c1 c2 c3 c4 c8 cl w w9 m wide big L2 hn10 z2 z3 ((S0.length : Int) - 1) (L1.length : Int) LS.length ⟨hl1, hl17⟩ H3.out HP8.out _ _ _ _ _ _ _ _ _ _ _ _ _ _ _ _ _ _ _ _ _ _ _ _ _ _ _ _ _ _ _ _ _ _ _ _ _ _ _ _ _ _ _ _ _ _ _ _ _ _ _ _ _ _ _ _ _ _ _ _ _ _ _ _ _ _ _ _ _ _ _ _ _ _ _ _ _ _ _ _ _ _ _ _ _ _ _ _ _ _ _ _ _ _ _ _ _ _ _ _ _ _ _ _ _ _ _ _ _ _ _ _ _ _ _ _ _ _ _ _ _ _ _ _ _ _ _ _ _ _ _ _ _ _ _ _ _ _ _ _ _ _ _ _ _ _ _ _ _ _ _ _ _ _ _ _ _ _ _ _ _ _ _ _ _ _ _ _ _ _ _ _ _ _ _ _ _ _ _ _ _ _ _ _ _ _ _ _ _ _ _ _ _ _ _ _ _ _ _ _ _ _ _ _ _ _ _ _ _ _ _ _ _ _ ?_
        intro s13 s14 s15 s80 s81 s82 s83 s84 s85 s86 s87 s88 s89 s90 s91 s92 s93 s94 s95 s96 s97 s98 s99 s100 s101 s102 s103 s104 s105 s106 s107 s108 s109 s110 s111 s112 s113 s114 s115 s116 s117 s118 s119 s120 s121 s122 s123 s124 s125 s126 s127 s128 s129 s130 s131 s132 s133 s134 s135 s136 s137 s138 s139 s140 s141 s142 s143 s144 s145 s146 s147 s148 s149 s150 s151 s152 s153 s154 v wF hF
        go_wp2_with fail
        go_meet
        case rel => exact ⟨v, Lib.hid (by rw [HL3.out, if_pos hr]; exact hF)⟩
      · have HNR := Lib.hid hr
        refine wp_cond_false (by first | exact congrArg Value.bool (decide_eq_false hr) | exact congrArg Value.bool (decide_eq_false (by omega : ¬ (0 : Int) < (rs.length : Int)))) ?_
        clear hr
        go_wp2_with fail
        go_meet
        case rel => exact ⟨_, Lib.hid (by rw [HL3.out, if_neg HNR.out, List.append_nil]; exact HP8.out)⟩
    case rest =>
      clear HP8
      obtain ⟨v9, HM9⟩ := hcut
      obtain ⟨A9, c9, rfl⟩ := Kd.R_slice HM9.out.2.1
      refine (by assumption : ∀ (a : Act) (w : World), Code.wp _ _ _ a w → _) _ _ ?_
      refine made_grp fl ps.length ys.length rs.length ds.length a1 a2 a3 a4 A9 Al c1 c2 c3 c4 c9 cl w _ m wide big L3 hn11 ((S0.length : Int) - 1) (L1.length : Int) LS.length ⟨hl1, hl17⟩ HM9.out _ _ _ _ _ _ _ _ _ _ _ _ _ _ _ _ _ _ _ _ _ _ _ _ _ _ _ _ _ _ _ _ _ _ _ _ _ _ _ _ _ _ _ _ _ _ _ _ _ _ _ _ _ _ _ _ _ _ _ _ _ _ _ _ _ _ _ _ _ _ _ _ _ _ _ _ _ _ _ _ _ _ _ _ _ _ _ _ _ _ _ _ _ _ _ _ _ _ _ _ _ _ _ _ _ _ _ _ _ _ _ _ _ _ _ _ _ _ _ _ _ _ _ _ _ _ _ _ _ _ _ _ _ _ _ _ _ _ _ _ _ _ _ _ _ _ _ _ _ _ _ _ _ _ _ _ _ _ _ _ _ _ _ _ _ _ _ _ _ _ _ _ _ _ _ _ _ _ _ _ _ _ _ _ _ _ _ _ _ _ _ _ _ _ _ _ _ _ _ _ _ _ _ _ _ _ _ _ _ _ _ _ _ _ _ _ ?_
      intro s155 s156 s157 s158 s159 s160 s161 s162 s163 s164 s165 s166 s167 s168 s169 s170 s171 s172 s173 s174 s175 s176 s177 s178 s179 s180 s181 s182 v wF hF
      refine HK.out _ _ _ _ _ _ _ _ _ _ _ _ _ _ _ _ _ _ _ _ _ _ _ _ _ _ _ _ _ _ _ _ _ _ _ _ _ _ _ _ _ _ _ _ _ _ _ _ _ _ _ _ _ _ _ _ _ _ _ _ _ _ _ _ _ _ _ _ _ _ _ _ _ _ _ _ _ _ _ _ _ _ _ _ _ _ _ _ _ _ _ _ _ _ _ _ _ _ _ _ _ _ _ _ _ _ _ _ _ _ _ _ _ _ _ _ _ _ _ _ _ _ _ _ _ _ _ _ _ _ _ _ _ _ _ _ _ _ _ _ _ _ _ _ _ v wF ?_
      have hfin : S0 ++ moreSecs fl S0.length ys rs = L3 ++ (if flagB fl 16 = true then [groupS (L1.length : Int) LS.length ((S0.length : Int) - 1)] else []) ++ (if flagB fl 32 = true then [indicesS (L1.length : Int)] else []) := by
        simp only [moreSecs]
        rw [← HWD.out, HZ.out, ← HLS.out, ← HLOC.out, ← HOWN.out, ← HLK.out, HL3.out, HL2.out, HL1.out]
        have h9 : S0.length + (if own = true then 1 else 0) = L1.length := HN9.out.symm
        rw [h9, HL1.out]
        simp only [List.append_assoc]
      rw [hfin]
      exact hF
end Go.Proofs.YtkbamfiokhmpjaaDoor

/- Contracts over this translation, plans' models: made's group and indices. -/
import Derived.Test.YtkbamfiokhmpjaaDoorXKdM17F
namespace Go.Proofs.YtkbamfiokhmpjaaDoor
set_option linter.unusedVariables false
set_option linter.unusedSimpArgs false
open Go.RowKit Go.Proofs.YtkbamfiokhmpjaaDoorX.Kd Go.Proofs.YtkbamfiokhmpjaaDoorW.PrintWords Go.Proofs.YtkbamfiokhmpjaaDoorW.PrintLast Go.Proofs.YtkbamfiokhmpjaaDoorW.PrintMore
attribute [local go_sem] max2_int min2_int max_two min_two

theorem R_two (w : World) (base e : Nat) (hb : base ≤ w.heap.size) (x y : Int) : (Kd.int .u64).R e (w.alloc (.cells #[.int .u64 x, .int .u64 y] e)) base (fun k => k = w.heap.size) (.slice (some ⟨w.heap.size, 0, none⟩) 2 2) [x, y] := by
  refine ⟨fun k hk => by simpa [Value.ownBlock] using hk.symm, [.int .u64 x, .int .u64 y], ?_, ?_⟩
  · exact World.ownsRow_lit (base := base) (e := e) (size := 1) _ _ 2 hb (by unfold maxLen; omega) rfl
  · exact Reps.front rfl rfl (Reps.front rfl rfl (Reps.none _ _) rfl) rfl
/-- The end of the block of made's symbols. -/
noncomputable def madeGrp : Code := sndC (sndC (sndC (sndC (sndC (sndC (thenC (sndC (fstC (sndC (sndC (sndC (sndC (sndC madeCode)))))))))))))
set_option maxRecDepth 100000 in
set_option maxHeartbeats 16000000 in
theorem made_grp (fl : Int) (n1 n2 n3 n4 : Nat) (a1 a2 a3 a4 A8 Al : Option Addr) (c1 c2 c3 c4 c8 cl : Nat) (w w9 : World) (m : Nat) (wide big : Bool) (L3 : List S61) (hL3 : L3.length ≤ 11) (target table : Int) (LSn : Nat) (hLS : 1 ≤ LSn ∧ LSn ≤ 17) (hm9 : MSt w w9 m wide big #[.int .i64 fl, .slice a1 n1 c1, .slice a2 n2 c2, .slice a3 n3 c3, .slice a4 n4 c4] #[.bool false, .bool false, .int .u8 0, .int .u8 0, .int .u64 0, .int .u64 0, .int .u64 0, .int .u64 0, .int .u64 0, .slice none 0 0, .slice none 0 0] (fun _ => True) (.slice A8 L3.length c8) (L3) (.slice none 0 0))
    (u0 u4 u5 u6 u7 u9 u12 u13 u14 u15 u16 u17 u18 u19 u20 u21 u22 u23 u24 u25 u26 u27 u28 u29 u30 u31 u32 u33 u34 u35 u36 u37 u38 u39 u40 u41 u42 u43 u44 u45 u46 u47 u48 u49 u50 u51 u52 u53 u54 u55 u56 u57 u58 u59 u60 u61 u62 u63 u64 u65 u66 u67 u68 u69 u70 u71 u72 u73 u74 u75 u76 u77 u78 u79 u80 u81 u82 u83 u84 u85 u86 u87 u88 u89 u90 u91 u92 u93 u94 u95 u96 u97 u98 u99 u100 u101 u102 u103 u104 u105 u106 u107 u108 u109 u110 u111 u112 u113 u114 u115 u116 u117 u118 u119 u120 u121 u122 u123 u124 u125 u126 u127 u128 u129 u130 u131 u132 u133 u134 u135 u136 u137 u138 u139 u140 u141 u142 u143 u144 u145 u146 u147 u148 u149 u150 u151 u152 u153 u154 u155 u156 u157 u158 u159 u160 u161 u162 u163 u164 u165 u166 u167 u168 u169 u170 u171 u172 u173 u174 u175 u176 u177 u178 u179 u180 u181 u182 u183 u184 u185 u186 u187 u188 u189 u190 u191 u192 u193 u194 u195 u196 u197 u198 u199 u200 u201 u202 u203 u204 u205 u206 u207 u208 u209 u210 u211 u212 u213 u214 u215 u216 u217 u218 u219 : Value) (K : Act → World → Prop) (Q' : Exit → Act → World → Prop) (hK : ∀ (s155 s156 s157 s158 s159 s160 s161 s162 s163 s164 s165 s166 s167 s168 s169 s170 s171 s172 s173 s174 s175 s176 s177 s178 s179 s180 s181 s182 : Value) (v : Value) (wF : World), MSt w wF m wide big #[.int .i64 fl, .slice a1 n1 c1, .slice a2 n2 c2, .slice a3 n3 c3, .slice a4 n4 c4] #[.bool false, .bool false, .int .u8 0, .int .u8 0, .int .u64 0, .int .u64 0, .int .u64 0, .int .u64 0, .int .u64 0, .slice none 0 0, .slice none 0 0] (fun _ => True) (v) (L3 ++ (if flagB fl 16 = true then [groupS table LSn target] else []) ++ (if flagB fl 32 = true then [indicesS table] else [])) (.slice none 0 0) → K ⟨#[u0, .pointer (some ⟨w.heap.size, 0, none⟩), .pointer (some ⟨w.heap.size + 1, 0, none⟩), .pointer (some ⟨m, 0, none⟩), u4, u5, u6, u7, .int .u64 target, u9, .int .u64 table, .slice Al LSn cl, u12, u13, u14, u15, u16, u17, u18, u19, u20, u21, u22, u23, u24, u25, u26, u27, u28, u29, u30, u31, u32, u33, u34, u35, u36, u37, u38, u39, u40, u41, u42, u43, u44, u45, u46, u47, u48, u49, u50, u51, u52, u53, u54, u55, u56, u57, u58, u59, u60, u61, u62, u63, u64, u65, u66, u67, u68, u69, u70, u71, u72, u73, u74, u75, u76, u77, u78, u79, u80, u81, u82, u83, u84, u85, u86, u87, u88, u89, u90, u91, u92, u93, u94, u95, u96, u97, u98, u99, u100, u101, u102, u103, u104, u105, u106, u107, u108, u109, u110, u111, u112, u113, u114, u115, u116, u117, u118, u119, u120, u121, u122, u123, u124, u125, u126, u127, u128, u129, u130, u131, u132, u133, u134, u135, u136, u137, u138, u139, u140, u141, u142, u143, u144, u145, u146, u147, u148, u149, u150, u151, u152, u153, u154, s155, s156, s157, s158, s159, s160, s161, s162, s163, s164, s165, s166, s167, s168, s169, s170, s171, s172, s173, s174, s175, s176, s177, s178, s179, s180, s181, s182, u183, u184, u185, u186, u187, u188, u189, u190, u191, u192, u193, u194, u195, u196, u197, u198, u199, u200, u201, u202, u203, u204, u205, u206, u207, u208, u209, u210, u211, u212, u213, u214, u215, u216, u217, u218, u219], []⟩ wF) :
    Code.wp Tryd.prog madeGrp (Exit.then K Q') ⟨#[u0, .pointer (some ⟨w.heap.size, 0, none⟩), .pointer (some ⟨w.heap.size + 1, 0, none⟩), .pointer (some ⟨m, 0, none⟩), u4, u5, u6, u7, .int .u64 target, u9, .int .u64 table, .slice Al LSn cl, u12, u13, u14, u15, u16, u17, u18, u19, u20, u21, u22, u23, u24, u25, u26, u27, u28, u29, u30, u31, u32, u33, u34, u35, u36, u37, u38, u39, u40, u41, u42, u43, u44, u45, u46, u47, u48, u49, u50, u51, u52, u53, u54, u55, u56, u57, u58, u59, u60, u61, u62, u63, u64, u65, u66, u67, u68, u69, u70, u71, u72, u73, u74, u75, u76, u77, u78, u79, u80, u81, u82, u83, u84, u85, u86, u87, u88, u89, u90, u91, u92, u93, u94, u95, u96, u97, u98, u99, u100, u101, u102, u103, u104, u105, u106, u107, u108, u109, u110, u111, u112, u113, u114, u115, u116, u117, u118, u119, u120, u121, u122, u123, u124, u125, u126, u127, u128, u129, u130, u131, u132, u133, u134, u135, u136, u137, u138, u139, u140, u141, u142, u143, u144, u145, u146, u147, u148, u149, u150, u151, u152, u153, u154, u155, u156, u157, u158, u159, u160, u161, u162, u163, u164, u165, u166, u167, u168, u169, u170, u171, u172, u173, u174, u175, u176, u177, u178, u179, u180, u181, u182, u183, u184, u185, u186, u187, u188, u189, u190, u191, u192, u193, u194, u195, u196, u197, u198, u199, u200, u201, u202, u203, u204, u205, u206, u207, u208, u209, u210, u211, u212, u213, u214, u215, u216, u217, u218, u219], []⟩ w9 := by
  conv => arg 2; whnf
  have HM9 := Lib.hid hm9
  have HK := Lib.hid hK
  clear hm9 hK
  obtain ⟨isG, hisG⟩ : ∃ isG, isG = flagB fl 16 := ⟨_, rfl⟩
  have HG := Lib.hid hisG
  have eG : (bits .and .i64 fl 16 == 16) = isG := hisG.symm
  clear hisG
  obtain ⟨isI, hisI⟩ : ∃ isI, isI = flagB fl 32 := ⟨_, rfl⟩
  have HI := Lib.hid hisI
  have eI : (bits .and .i64 fl 32 == 32) = isI := hisI.symm
  clear hisI
  have p0 := blk_cell HM9.out.2.2.2.1 0
  have q9 := blk_cell HM9.out.1 9
  simp only [List.getElem?_toArray, List.getElem?_cons_succ, List.getElem?_cons_zero] at p0 q9
  have b1 : IntKind.i64.wrap ((LSn : Int) - 1) = (LSn : Int) - 1 := by rw [IntKind.wrap_i64]; omega
  have b2 : IntKind.u64.wrap ((LSn : Int) - 1) = (LSn : Int) - 1 := by rw [IntKind.wrap_u64]; omega
  go_upto_if 158 with (fail)
  go_cut [] from 155 to 171 (fun wx => ∃ v : Value, Hid (MSt w wx m wide big #[.int .i64 fl, .slice a1 n1 c1, .slice a2 n2 c2, .slice a3 n3 c3, .slice a4 n4 c4] #[.bool false, .bool false, .int .u8 0, .int .u8 0, .int .u64 0, .int .u64 0, .int .u64 0, .int .u64 0, .int .u64 0, .slice none 0 0, .slice none 0 0] (fun _ => True) (v) (L3 ++ (if isG = true then [groupS table LSn target] else [])) (.slice none 0 0)))
  case first =>
    cases isG
    · go_wp2
      go_meet
      case rel => exact ⟨_, Lib.hid (by simpa using HM9.out)⟩
    · go_wp2_with (first | (at_builtin; refine Kd.R_append k61 (w0 := w) w.heap.size rfl (.tmp 160) (.tmp 169) 31 61 _ _ rfl Tryd.underlying31 info61 rfl (by decide) (by omega) (.slice A8 L3.length c8) L3 (groupS table LSn target) _ (fun _ => True) (fun k => k = w9.heap.size) rfl (by first | rfl | (rw [World.size_alloc]; rfl) | (simp; done)) (k61_mkM _ _ _ _ (Kd.R_nil _ _ _ _ _) (Kd.R_nil _ _ _ _ _) (R_two w9 w.heap.size 28 HM9.out.2.2.1.size 1 target)) (fun k h => ⟨trivial, fun he => Nat.lt_irrefl w9.heap.size (by rw [h] at he; exact Kd.R_lt HM9.out.2.1 _ he.symm)⟩) (fun _ _ => trivial) ((HM9.out.below (below_alloc (Below.refl _ _) (.cells #[.int .u64 1, .int .u64 target] 28))).2.1) ((HM9.out.below (below_alloc (Below.refl _ _) (.cells #[.int .u64 1, .int .u64 target] 28))).2.2.1) (((HM9.out.below (below_alloc (Below.refl _ _) (.cells #[.int .u64 1, .int .u64 target] 28))).2.2.1).size) (by omega) ?_))
      intro v6 w6 hR6 hB6 hG6 hat6
      obtain ⟨A6, c6, rfl⟩ := Kd.R_slice hR6
      have hMM := (HM9.out.below (below_alloc (Below.refl _ _) (.cells #[.int .u64 1, .int .u64 target] 28)))
      have hm6 := blk_grown hMM.1 hG6 (Kd.R_ne hMM.2.1 hMM.1 (by decide))
      have q96 := blk_cell hm6 9
      have z96 := blk_frozen hm6 9
      simp only [List.getElem?_toArray, List.getElem?_cons_succ, List.getElem?_cons_zero] at q96
      have HP6 := Lib.hid (MSt.put hMM hG6 hR6 hB6)
      clear hMM hm6 hR6 hB6 hG6 hat6
      go_wp2
      go_meet
      case rel => exact ⟨.slice A6 (L3.length + 1) c6, Lib.hid (by simpa using HP6.out)⟩
  case rest =>
    clear p0 q9 HM9 b1 b2 eG
    obtain ⟨v9, HM9⟩ := hcut
    obtain ⟨A9, c9, rfl⟩ := Kd.R_slice HM9.out.2.1
    obtain ⟨L4, hL4⟩ : ∃ L4, L4 = L3 ++ (if isG = true then [groupS table LSn target] else []) := ⟨_, rfl⟩
    rw [← hL4] at HM9
    have hn12 : L4.length ≤ 12 := by rw [hL4, List.length_append]; split <;> simp <;> omega
    have HL4 := Lib.hid hL4
    clear hL4
    have p0 := blk_cell HM9.out.2.2.2.1 0
    have q9 := blk_cell HM9.out.1 9
    simp only [List.getElem?_toArray, List.getElem?_cons_succ, List.getElem?_cons_zero] at p0 q9
    have HFI := Lib.hid (show L3 ++ (if flagB fl 16 = true then [groupS table LSn target] else []) ++ (if flagB fl 32 = true then [indicesS table] else []) = L4 ++ (if isI = true then [indicesS table] else []) by rw [HL4.out, HG.out, HI.out])
    rw [HFI.out] at HK
    clear HFI
    go_upto_if 175 with (fail)
    cases isI
    · go_wp2
      refine HK.out _ _ _ _ _ _ _ _ _ _ _ _ _ _ _ _ _ _ _ _ _ _ _ _ _ _ _ _ (.slice A9 L4.length c9) _ ?_
      simpa using HM9.out
    · go_wp2_with (first | (at_builtin; refine Kd.R_append k61 (w0 := w) w.heap.size rfl (.tmp 177) (.tmp 180) 31 61 _ _ rfl Tryd.underlying31 info61 rfl (by decide) (by omega) (.slice A9 L4.length c9) L4 (indicesS table) _ (fun _ => True) (fun _ => False) rfl (by first | rfl | (rw [World.size_alloc]; rfl) | (simp; done)) (k61_mkM _ _ _ _ (Kd.R_nil _ _ _ _ _) (Kd.R_nil _ _ _ _ _) (Kd.R_nil _ _ _ _ _)) (fun _ h => h.elim) (fun _ _ => trivial) (HM9.out.2.1) (HM9.out.2.2.1) ((HM9.out.2.2.1).size) (by omega) ?_))
      intro v7 w7 hR7 hB7 hG7 hat7
      obtain ⟨A7, c7, rfl⟩ := Kd.R_slice hR7
      have hMM := HM9.out
      have hm7 := blk_grown hMM.1 hG7 (Kd.R_ne hMM.2.1 hMM.1 (by decide))
      have q97 := blk_cell hm7 9
      have z97 := blk_frozen hm7 9
      simp only [List.getElem?_toArray, List.getElem?_cons_succ, List.getElem?_cons_zero] at q97
      have HP7 := Lib.hid (MSt.put hMM hG7 hR7 hB7)
      clear hMM hm7 hR7 hB7 hG7 hat7
      go_wp2
      refine HK.out _ _ _ _ _ _ _ _ _ _ _ _ _ _ _ _ _ _ _ _ _ _ _ _ _ _ _ _ (.slice A7 (L4.length + 1) c7) _ ?_
      simpa using HP7.out
end Go.Proofs.YtkbamfiokhmpjaaDoor

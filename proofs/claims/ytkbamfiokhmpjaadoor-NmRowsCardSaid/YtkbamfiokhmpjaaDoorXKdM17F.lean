/- Contracts over this translation, plans' models: made's relocations. -/
import Derived.Test.YtkbamfiokhmpjaaDoorXKdM17D
namespace Go.Proofs.YtkbamfiokhmpjaaDoor
set_option linter.unusedVariables false
set_option linter.unusedSimpArgs false
open Go.RowKit Go.Proofs.YtkbamfiokhmpjaaDoorX.Kd Go.Proofs.YtkbamfiokhmpjaaDoorW.PrintWords Go.Proofs.YtkbamfiokhmpjaaDoorW.PrintLast Go.Proofs.YtkbamfiokhmpjaaDoorW.PrintMore
attribute [local go_sem] max2_int min2_int max_two min_two

theorem MSt.far {w0 wx : World} {m : Nat} {wide big : Bool} {PC RC : Array Value} {ok : Nat → Prop} {v vs : Value} {L : List S61} (h : MSt w0 wx m wide big PC RC ok v L vs) {g : Nat} (hok : ∀ k, ok k → k ≠ g) (hm : m ≠ g) (h2 : w0.heap.size + 2 ≤ g) (i : Nat) (u : Value) : MSt w0 (wx.setCell ⟨g, i, none⟩ u) m wide big PC RC ok v L vs :=
  ⟨blk_far h.1 (by exact hm) u, Kd.R_far h.2.1 (by exact hok) u, h.2.2.1.setCell (by show w0.heap.size ≤ g; omega) u, blk_far h.2.2.2.1 (by show w0.heap.size ≠ g; omega) u, blk_far h.2.2.2.2.1 (by show w0.heap.size + 1 ≠ g; omega) u, h.2.2.2.2.2⟩
theorem MSt.alloc {w0 wx : World} {m : Nat} {wide big : Bool} {PC RC : Array Value} {ok : Nat → Prop} {v vs : Value} {L : List S61} (h : MSt w0 wx m wide big PC RC ok v L vs) (o : Obj) : MSt w0 (wx.alloc o) m wide big PC RC (fun k => ok k ∧ k ≠ wx.heap.size) v L vs :=
  have h1 := h.below (below_alloc (Below.refl _ _) o)
  ⟨h1.1, Kd.R_alloc (Kd.R_mono (Kd.R_bound h.2.1) (fun k hk => ⟨hk.1, Nat.ne_of_lt hk.2.2.1⟩)) o, h1.2.2⟩
theorem MSt.ok {w0 wx : World} {m : Nat} {wide big : Bool} {PC RC : Array Value} {ok ok' : Nat → Prop} {v vs : Value} {L : List S61} (h : MSt w0 wx m wide big PC RC ok v L vs) (hk : ∀ k, ok k → ok' k) : MSt w0 wx m wide big PC RC ok' v L vs :=
  ⟨h.1, Kd.R_mono h.2.1 hk, h.2.2⟩
theorem MSt.grown {w0 wx w1 : World} {m : Nat} {wide big : Bool} {PC RC : Array Value} {ok ok' : Nat → Prop} {v vs xr : Value} {L : List S61} {D : List S80} {b : Nat} (h : MSt w0 wx m wide big PC RC ok v L vs) (hD : Kd.R k80 80 wx b ok' xr D) (hg : wx.grownBy w1 xr.ownBlock) (hok : ∀ k, ok k → some k ≠ xr.ownBlock) (hb : Below w0.heap.size w0 w1) : MSt w0 w1 m wide big PC RC ok v L vs :=
  ⟨blk_grown h.1 hg (Kd.R_ne hD h.1 (by decide)), Kd.R_grown h.2.1 hg hok, hb, blk_grown h.2.2.2.1 hg (Kd.R_ne hD h.2.2.2.1 (by decide)), blk_grown h.2.2.2.2.1 hg (Kd.R_ne hD h.2.2.2.2.1 (by decide)), h.2.2.2.2.2⟩
theorem MSt.older {w0 wx wy : World} {m : Nat} {wide big : Bool} {PC RC : Array Value} {ok : Nat → Prop} {v vs : Value} {L : List S61} (h : MSt w0 wx m wide big PC RC ok v L vs) (hb : Below wx.heap.size wx wy) : MSt w0 wy m wide big PC RC (fun k => k < wx.heap.size) v L vs :=
  have h1 := h.below hb
  ⟨h1.1, Kd.R_below (Kd.R_mono (Kd.R_bound h.2.1) (fun k hk => hk.2.2.1)) hb, h1.2.2⟩
theorem infoRel : (Tryd.prog.info? 80).map (fun i => (i.zero, i.size, i.bytes)) = some (some (.agg #[.int .u64 0, .int .u64 0, .int .u64 0, .int .u64 0]), 4, 32) := by kernel_rfl
/-- The block of made's relocations. -/
noncomputable def madeRel : Code := thenC (sndC (fstC (sndC (sndC (sndC (sndC (sndC (thenC (sndC (fstC (sndC (sndC (sndC (sndC (sndC madeCode)))))))))))))))
set_option maxRecDepth 100000 in
set_option maxHeartbeats 16000000 in
theorem made_rel (fl : Int) (rs : List S78) (n1 n2 n4 : Nat) (a1 a2 a3 a4 A8 Al : Option Addr) (c1 c2 c3 c4 c8 cl : Nat) (w w9 : World) (m : Nat) (wide big : Bool) (L2 : List S61) (hL2 : L2.length ≤ 10) (z2 z3 target table : Int) (LSn : Nat) (hLS : 1 ≤ LSn ∧ LSn ≤ 17) (hr3 : Kd.C k78 w a3 rs.length rs) (hm9 : MSt w w9 m wide big #[.int .i64 fl, .slice a1 n1 c1, .slice a2 n2 c2, .slice a3 rs.length c3, .slice a4 n4 c4] #[.bool false, .bool false, .int .u8 0, .int .u8 0, .int .u64 0, .int .u64 0, .int .u64 0, .int .u64 0, .int .u64 0, .slice none 0 0, .slice none 0 0] (fun _ => True) (.slice A8 L2.length c8) (L2) (.slice none 0 0))
    (u0 u4 u7 u9 u12 u13 u14 u15 u16 u17 u18 u19 u20 u21 u22 u23 u24 u25 u26 u27 u28 u29 u30 u31 u32 u33 u34 u35 u36 u37 u38 u39 u40 u41 u42 u43 u44 u45 u46 u47 u48 u49 u50 u51 u52 u53 u54 u55 u56 u57 u58 u59 u60 u61 u62 u63 u64 u65 u66 u67 u68 u69 u70 u71 u72 u73 u74 u75 u76 u77 u78 u79 u80 u81 u82 u83 u84 u85 u86 u87 u88 u89 u90 u91 u92 u93 u94 u95 u96 u97 u98 u99 u100 u101 u102 u103 u104 u105 u106 u107 u108 u109 u110 u111 u112 u113 u114 u115 u116 u117 u118 u119 u120 u121 u122 u123 u124 u125 u126 u127 u128 u129 u130 u131 u132 u133 u134 u135 u136 u137 u138 u139 u140 u141 u142 u143 u144 u145 u146 u147 u148 u149 u150 u151 u152 u153 u154 u155 u156 u157 u158 u159 u160 u161 u162 u163 u164 u165 u166 u167 u168 u169 u170 u171 u172 u173 u174 u175 u176 u177 u178 u179 u180 u181 u182 u183 u184 u185 u186 u187 u188 u189 u190 u191 u192 u193 u194 u195 u196 u197 u198 u199 u200 u201 u202 u203 u204 u205 u206 u207 u208 u209 u210 u211 u212 u213 u214 u215 u216 u217 u218 u219 : Value) (K : Act → World → Prop) (Q' : Exit → Act → World → Prop) (hK : ∀ (s13 s14 s15 s80 s81 s82 s83 s84 s85 s86 s87 s88 s89 s90 s91 s92 s93 s94 s95 s96 s97 s98 s99 s100 s101 s102 s103 s104 s105 s106 s107 s108 s109 s110 s111 s112 s113 s114 s115 s116 s117 s118 s119 s120 s121 s122 s123 s124 s125 s126 s127 s128 s129 s130 s131 s132 s133 s134 s135 s136 s137 s138 s139 s140 s141 s142 s143 s144 s145 s146 s147 s148 s149 s150 s151 s152 s153 s154 : Value) (v : Value) (wF : World), MSt w wF m wide big #[.int .i64 fl, .slice a1 n1 c1, .slice a2 n2 c2, .slice a3 rs.length c3, .slice a4 n4 c4] #[.bool false, .bool false, .int .u8 0, .int .u8 0, .int .u64 0, .int .u64 0, .int .u64 0, .int .u64 0, .int .u64 0, .slice none 0 0, .slice none 0 0] (fun _ => True) (v) (L2 ++ [relS (flagB fl 8) table target z2 z3 LSn rs]) (.slice none 0 0) → K ⟨#[u0, .pointer (some ⟨w.heap.size, 0, none⟩), .pointer (some ⟨w.heap.size + 1, 0, none⟩), .pointer (some ⟨m, 0, none⟩), u4, .int .u64 z2, .int .u64 z3, u7, .int .u64 target, u9, .int .u64 table, .slice Al LSn cl, u12, s13, s14, s15, u16, u17, u18, u19, u20, u21, u22, u23, u24, u25, u26, u27, u28, u29, u30, u31, u32, u33, u34, u35, u36, u37, u38, u39, u40, u41, u42, u43, u44, u45, u46, u47, u48, u49, u50, u51, u52, u53, u54, u55, u56, u57, u58, u59, u60, u61, u62, u63, u64, u65, u66, u67, u68, u69, u70, u71, u72, u73, u74, u75, u76, u77, u78, u79, s80, s81, s82, s83, s84, s85, s86, s87, s88, s89, s90, s91, s92, s93, s94, s95, s96, s97, s98, s99, s100, s101, s102, s103, s104, s105, s106, s107, s108, s109, s110, s111, s112, s113, s114, s115, s116, s117, s118, s119, s120, s121, s122, s123, s124, s125, s126, s127, s128, s129, s130, s131, s132, s133, s134, s135, s136, s137, s138, s139, s140, s141, s142, s143, s144, s145, s146, s147, s148, s149, s150, s151, s152, s153, s154, u155, u156, u157, u158, u159, u160, u161, u162, u163, u164, u165, u166, u167, u168, u169, u170, u171, u172, u173, u174, u175, u176, u177, u178, u179, u180, u181, u182, u183, u184, u185, u186, u187, u188, u189, u190, u191, u192, u193, u194, u195, u196, u197, u198, u199, u200, u201, u202, u203, u204, u205, u206, u207, u208, u209, u210, u211, u212, u213, u214, u215, u216, u217, u218, u219], []⟩ wF) :
    Code.wp Tryd.prog madeRel (Exit.then K Q') ⟨#[u0, .pointer (some ⟨w.heap.size, 0, none⟩), .pointer (some ⟨w.heap.size + 1, 0, none⟩), .pointer (some ⟨m, 0, none⟩), u4, .int .u64 z2, .int .u64 z3, u7, .int .u64 target, u9, .int .u64 table, .slice Al LSn cl, u12, u13, u14, u15, u16, u17, u18, u19, u20, u21, u22, u23, u24, u25, u26, u27, u28, u29, u30, u31, u32, u33, u34, u35, u36, u37, u38, u39, u40, u41, u42, u43, u44, u45, u46, u47, u48, u49, u50, u51, u52, u53, u54, u55, u56, u57, u58, u59, u60, u61, u62, u63, u64, u65, u66, u67, u68, u69, u70, u71, u72, u73, u74, u75, u76, u77, u78, u79, u80, u81, u82, u83, u84, u85, u86, u87, u88, u89, u90, u91, u92, u93, u94, u95, u96, u97, u98, u99, u100, u101, u102, u103, u104, u105, u106, u107, u108, u109, u110, u111, u112, u113, u114, u115, u116, u117, u118, u119, u120, u121, u122, u123, u124, u125, u126, u127, u128, u129, u130, u131, u132, u133, u134, u135, u136, u137, u138, u139, u140, u141, u142, u143, u144, u145, u146, u147, u148, u149, u150, u151, u152, u153, u154, u155, u156, u157, u158, u159, u160, u161, u162, u163, u164, u165, u166, u167, u168, u169, u170, u171, u172, u173, u174, u175, u176, u177, u178, u179, u180, u181, u182, u183, u184, u185, u186, u187, u188, u189, u190, u191, u192, u193, u194, u195, u196, u197, u198, u199, u200, u201, u202, u203, u204, u205, u206, u207, u208, u209, u210, u211, u212, u213, u214, u215, u216, u217, u218, u219], []⟩ w9 := by
  conv => arg 2; whnf
  have H3 := Lib.hid hr3
  have HM9 := Lib.hid hm9
  have HMB := Lib.hid hm9.2.2.1
  have HK := Lib.hid hK
  clear hr3 hm9 hK
  obtain ⟨isA, hisA⟩ : ∃ isA, isA = flagB fl 8 := ⟨_, rfl⟩
  have HA := Lib.hid hisA
  have eA : (bits .and .i64 fl 8 == 8) = isA := hisA.symm
  clear hisA
  obtain ⟨wX, hwX⟩ : ∃ wX, wX = w9.alloc (.cells #[.string ⟨#[46, 114, 101, 108]⟩, .int .u64 (9), .int .u64 0, .int .u64 0, .int .u64 table, .int .u64 target, .int .u64 0, .int .u64 (z2), .int .u64 0, .string ⟨#[]⟩, .slice none 0 0, .slice none 0 0, .slice none 0 0] 61) := ⟨_, rfl⟩
  have p0a : ∀ o, (w9.alloc o).cell? ⟨w.heap.size, 0, none⟩ = some (.int .i64 fl) := fun o => blk_cell (blk_alloc HM9.out.2.2.2.1 o) 0
  have HX0 := Lib.hid (show wX.heap[w9.heap.size]? = some (.cells #[.string ⟨#[46, 114, 101, 108]⟩, .int .u64 (9), .int .u64 0, .int .u64 0, .int .u64 table, .int .u64 target, .int .u64 0, .int .u64 (z2), .int .u64 0, .string ⟨#[]⟩, .slice none 0 0, .slice none 0 0, .slice none 0 0] 61 (0, 0)) by rw [hwX]; exact blk_new w9 _)
  have HMX := Lib.hid (show MSt w wX m wide big #[.int .i64 fl, .slice a1 n1 c1, .slice a2 n2 c2, .slice a3 rs.length c3, .slice a4 n4 c4] #[.bool false, .bool false, .int .u8 0, .int .u8 0, .int .u64 0, .int .u64 0, .int .u64 0, .int .u64 0, .int .u64 0, .slice none 0 0, .slice none 0 0] (fun k => k < w9.heap.size) (.slice A8 L2.length c8) (L2) (.slice none 0 0) by rw [hwX]; exact HM9.out.older (below_alloc (Below.refl _ _) _))
  have HBX := Lib.hid (show Below w9.heap.size w9 wX by rw [hwX]; exact below_alloc (Below.refl _ _) _)
  have hg1 : w.heap.size + 2 ≤ w9.heap.size := Nat.le_trans (Nat.succ_le_of_lt (blk_lt HM9.out.2.2.2.2.1)) (Nat.le_refl _)
  have hg2 : m ≠ w9.heap.size := Nat.ne_of_lt (blk_lt HM9.out.1)
  have x1 := blk_cell HX0.out 1
  have x7 := blk_cell HX0.out 7
  simp only [List.getElem?_toArray, List.getElem?_cons_succ, List.getElem?_cons_zero] at x1 x7
  have f1 := blk_frozen HX0.out 1
  have f7 := blk_frozen HX0.out 7
  have HWX := Lib.hid hwX
  clear hwX
  go_upto_if 87 with (fail)
  rw [← HWX.out]
  clear p0a HWX
  go_cut [] from 84 to 90 (fun wx => ∃ (ty en : Int), Hid (ty = (if isA = true then 4 else 9) ∧ en = (if isA = true then z3 else z2)) ∧ Hid (wx.heap[w9.heap.size]? = some (.cells #[.string ⟨#[46, 114, 101, 108]⟩, .int .u64 (ty), .int .u64 0, .int .u64 0, .int .u64 table, .int .u64 target, .int .u64 0, .int .u64 (en), .int .u64 0, .string ⟨#[]⟩, .slice none 0 0, .slice none 0 0, .slice none 0 0] 61 (0, 0)) ∧ MSt w wx m wide big #[.int .i64 fl, .slice a1 n1 c1, .slice a2 n2 c2, .slice a3 rs.length c3, .slice a4 n4 c4] #[.bool false, .bool false, .int .u8 0, .int .u8 0, .int .u64 0, .int .u64 0, .int .u64 0, .int .u64 0, .int .u64 0, .slice none 0 0, .slice none 0 0] (fun k => k < w9.heap.size) (.slice A8 L2.length c8) (L2) (.slice none 0 0)) ∧ Hid (Below w9.heap.size w9 wx))
  case first =>
    cases isA
    · go_wp2
      go_meet
      case rel => exact ⟨_, _, Lib.hid ⟨rfl, rfl⟩, Lib.hid ⟨HX0.out, HMX.out⟩, HBX⟩
    · go_wp2
      go_meet
      case rel => exact ⟨_, _, Lib.hid ⟨rfl, rfl⟩, Lib.hid ⟨blk_put (blk_put HX0.out 1 _ rfl) 7 _ rfl, (HMX.out.far (fun k hk => Nat.ne_of_lt hk) hg2 hg1 1 _).far (fun k hk => Nat.ne_of_lt hk) hg2 hg1 7 _⟩, Lib.hid ((HBX.out.setCell (Nat.le_refl _) _).setCell (Nat.le_refl _) _)⟩
  case rest =>
    obtain ⟨ty, en, HTE, HH0, HB0⟩ := hcut
    clear x1 x7 f1 f7 HX0 HMX eA
    have hty : (ty == 4) = isA := by rw [HTE.out.1]; cases isA <;> rfl
    have hwL : IntKind.u64.wrap (LSn : Int) = (LSn : Int) := by rw [IntKind.wrap_u64]; omega
    have hL0 : (LSn : Int) ≠ 0 := by omega
    have hL1 : LSn ≠ 0 := by omega
    go_wp2
    go_loopw [14] (fun i wr => ∃ (k : Nat) (xr : Value), k ≤ rs.length ∧ k ≤ 6 ∧ i = .int .i64 k ∧ Hid (wr.heap[w9.heap.size]? = some (.cells #[.string ⟨#[46, 114, 101, 108]⟩, .int .u64 (ty), .int .u64 0, .int .u64 0, .int .u64 table, .int .u64 target, .int .u64 0, .int .u64 (en), .int .u64 0, .string ⟨#[]⟩, .slice none 0 0, xr, .slice none 0 0] 61 (0, 0)) ∧ Kd.R k80 80 wr w9.heap.size (fun _ => True) xr ((rs.take k).map (relocR isA LSn)) ∧ MSt w wr m wide big #[.int .i64 fl, .slice a1 n1 c1, .slice a2 n2 c2, .slice a3 rs.length c3, .slice a4 n4 c4] #[.bool false, .bool false, .int .u8 0, .int .u8 0, .int .u64 0, .int .u64 0, .int .u64 0, .int .u64 0, .int .u64 0, .slice none 0 0, .slice none 0 0] (fun k => k < w9.heap.size) (.slice A8 L2.length c8) (L2) (.slice none 0 0)) ∧ Hid (Below w9.heap.size w9 wr)) (fun i _ => 6 - (intOf i).toNat)
    case atStart => exact ⟨0, _, Nat.zero_le _, Nat.zero_le _, rfl, Lib.hid ⟨HH0.out.1, by simpa using Kd.R_nil _ _ _ _ _, HH0.out.2⟩, HB0⟩
    case round =>
      obtain ⟨k, xr, hk1, hk6, rfl, HH, HBB⟩ := hrel
      clear HH0 HB0
      have p3 := blk_cell HH.out.2.2.2.2.2.1 3
      simp only [List.getElem?_toArray, List.getElem?_cons_succ, List.getElem?_cons_zero] at p3
      by_cases hlt : k < rs.length ∧ k < 6
      · skip
        obtain ⟨hl1, hl2⟩ := hlt
        obtain ⟨ad, hA, r0, r1, r2⟩ := at_T78 H3.out (k : Int) (by omega) (by omega)
        subst hA
        rw [Int.toNat_natCast] at r0 r1 r2
        have HXE := Lib.hid (show rd_T78 rs (k : Int) = rs[k] by unfold rd_T78; rw [Int.toNat_natCast]; simp [List.getD, hl1])
        obtain ⟨x, hxe⟩ : ∃ x, x = rd_T78 rs (k : Int) := ⟨_, rfl⟩
        rw [← hxe] at HXE r0 r1 r2
        clear hxe
        have HSK := Lib.hid (show (rs.take (k + 1)).map (relocR isA LSn) = (rs.take k).map (relocR isA LSn) ++ [relocR isA LSn x] by rw [List.take_succ_eq_append_getElem hl1, List.map_append, HXE.out]; rfl)
        have HC := Lib.hid (show ∀ W, Below wr.heap.size wr W → W.cell? ⟨w.heap.size, 3, none⟩ = some (.slice (some ad) rs.length c3) ∧ W.cell? (ad.add (k * 3)) = some (.int .i64 x.f0) ∧ W.cell? ⟨(ad.add (k * 3)).block, (ad.add (k * 3)).off + 1, none⟩ = some (.int .i64 x.f1) ∧ W.cell? ⟨(ad.add (k * 3)).block, (ad.add (k * 3)).off + 2, none⟩ = some (.int .i64 x.f2) from fun W hb => ⟨blk_cell (blk_below HH.out.2.2.2.2.2.1 hb) 3, ((HH.out.2.2.2.2.1.trans (hb.mono HH.out.2.2.2.2.1.size)).cell (World.block_lt_of_cell? w _ r0)).trans r0, ((HH.out.2.2.2.2.1.trans (hb.mono HH.out.2.2.2.2.1.size)).cell (World.block_lt_of_cell? w _ r1)).trans r1, ((HH.out.2.2.2.2.1.trans (hb.mono HH.out.2.2.2.2.1.size)).cell (World.block_lt_of_cell? w _ r2)).trans r2⟩)
        obtain ⟨i0, hi0⟩ : ∃ i0, i0 = IntKind.u64.wrap (bits .and .i64 x.f0 65535) := ⟨_, rfl⟩
        obtain ⟨i1, hi1⟩ : ∃ i1, i1 = Int.tmod (IntKind.u64.wrap (bits .and .i64 x.f1 255)) (LSn : Int) := ⟨_, rfl⟩
        obtain ⟨i2, hi2⟩ : ∃ i2, i2 = IntKind.u64.wrap (bits .and .i64 x.f0 15) := ⟨_, rfl⟩
        obtain ⟨w5, hw5⟩ : ∃ w5, w5 = (wr.alloc (.cells #[.int .u64 i0, .int .u64 i1, .int .u64 i2, .int .u64 0] 80)).drew := ⟨_, rfl⟩
        have HI := Lib.hid (And.intro hi0 (And.intro hi1 hi2))
        have HW5 := Lib.hid hw5
        clear hw5 hi0 hi1 hi2 r0 r1 r2
        go_upto_region 20 with (fail)
        go_cut [15] from 91 to 148 (fun s15 wx => s15 = .pointer (some ⟨wr.heap.size, 0, none⟩) ∧ wx = w5)
        case first =>
          go_region_held3 (fun W => W.cell? ⟨w.heap.size, 3, none⟩ = some (.slice (some ad) rs.length c3) ∧ W.cell? (ad.add (k * 3)) = some (.int .i64 x.f0) ∧ W.cell? ⟨(ad.add (k * 3)).block, (ad.add (k * 3)).off + 1, none⟩ = some (.int .i64 x.f1) ∧ W.cell? ⟨(ad.add (k * 3)).block, (ad.add (k * 3)).off + 2, none⟩ = some (.int .i64 x.f2))
            (exact HC.out _ (by repeat (first | with_reducible exact Below.refl _ _ | with_reducible assumption | with_reducible apply below_alloc | with_reducible apply pw_below_drewN | with_reducible apply below_drew1)))
            (fail)
          all_goals (go_wp2_with fail; go_meet; exact ⟨rfl, by rw [HW5.out, HI.out.1, HI.out.2.1, HI.out.2.2]⟩)
        case rest =>
          obtain ⟨rfl, rfl⟩ := hcut
          have hb5 : Below wr.heap.size wr wc := by rw [HW5.out]; exact Go.below_drewN ((Below.refl _ _).alloc (Nat.le_refl _) _) 1
          have HY := Lib.hid (show wc.heap[wr.heap.size]? = some (.cells #[.int .u64 i0, .int .u64 i1, .int .u64 i2, .int .u64 0] 80 (0, 0)) by rw [HW5.out]; exact blk_new wr _)
          have HX5 := Lib.hid (blk_below HH.out.1 hb5)
          have HR5 := Lib.hid (Kd.R_below (Kd.R_mono (ok' := fun j => j ≠ wr.heap.size) (Kd.R_bound HH.out.2.1) (fun j hj => Nat.ne_of_lt hj.2.2.1)) hb5)
          have HM5 := Lib.hid (HH.out.2.2.below hb5)
          have hgy : w9.heap.size < wr.heap.size := blk_lt HH.out.1
          have hc5 := HC.out _ hb5
          obtain ⟨p3, r0, r1, r2⟩ := hc5
          have x1 := blk_cell HX5.out 1
          simp only [List.getElem?_toArray, List.getElem?_cons_succ, List.getElem?_cons_zero] at x1
          have y3 := blk_cell HY.out 3
          simp only [List.getElem?_toArray, List.getElem?_cons_succ, List.getElem?_cons_zero] at y3
          have f3 := blk_frozen HY.out 3
          have hwm : m ≠ wr.heap.size := Nat.ne_of_lt (blk_lt HH.out.2.2.1)
          have hX0 := HH.out.2.2.2.2.1.size
          have HB5 := Lib.hid (HBB.out.trans (hb5.mono HBB.out.size))
          clear HC HW5 HH hb5 HBB
          obtain ⟨XS, hXS⟩ : ∃ XS, XS = (rs.take k).map (relocR isA LSn) := ⟨_, rfl⟩
          rw [← hXS] at HR5 HSK
          have hXL : XS.length ≤ 6 := by rw [hXS, List.length_map, List.length_take]; omega
          clear hXS
          go_upto_if 133 with (fail)
          go_cut [] from 91 to 148 (fun wx => ∃ j3 : Int, Hid (j3 = (if isA = true then IntKind.u64.wrap (bits .and .i64 x.f2 65535) else 0)) ∧ Hid (wx.heap[wr.heap.size]? = some (.cells #[.int .u64 i0, .int .u64 i1, .int .u64 i2, .int .u64 j3] 80 (0, 0)) ∧ wx.heap[w9.heap.size]? = some (.cells #[.string ⟨#[46, 114, 101, 108]⟩, .int .u64 (ty), .int .u64 0, .int .u64 0, .int .u64 table, .int .u64 target, .int .u64 0, .int .u64 (en), .int .u64 0, .string ⟨#[]⟩, .slice none 0 0, xr, .slice none 0 0] 61 (0, 0)) ∧ Kd.R k80 80 wx w9.heap.size (fun j => j ≠ wr.heap.size) xr XS ∧ MSt w wx m wide big #[.int .i64 fl, .slice a1 n1 c1, .slice a2 n2 c2, .slice (some ad) rs.length c3, .slice a4 n4 c4] #[.bool false, .bool false, .int .u8 0, .int .u8 0, .int .u64 0, .int .u64 0, .int .u64 0, .int .u64 0, .int .u64 0, .slice none 0 0, .slice none 0 0] (fun k => k < w9.heap.size) (.slice A8 L2.length c8) (L2) (.slice none 0 0)) ∧ Hid (Below w9.heap.size w9 wx))
          case first =>
            cases isA
            · go_wp2
              go_meet
              case rel => exact ⟨_, Lib.hid rfl, Lib.hid ⟨HY.out, HX5.out, HR5.out, HM5.out⟩, HB5⟩
            · go_wp2
              go_meet
              case rel => exact ⟨_, Lib.hid rfl, Lib.hid ⟨blk_put HY.out 3 _ rfl, blk_far HX5.out (Nat.ne_of_lt hgy) _, Kd.R_far HR5.out (fun j hj => hj) _, HM5.out.far (fun k hk => Nat.ne_of_lt (Nat.lt_trans hk hgy)) hwm (by omega) 3 _⟩, Lib.hid (HB5.out.setCell (Nat.le_of_lt hgy) _)⟩
          case rest =>
            clear p3 r0 r1 r2 x1 y3 f3 HY HX5 HR5 HM5
            obtain ⟨j3, HJ, HG, HB6⟩ := hcut
            obtain ⟨AX, cX, rfl⟩ := Kd.R_slice HG.out.2.2.1
            have y0 := blk_cell HG.out.1 0
            have y1 := blk_cell HG.out.1 1
            have y2 := blk_cell HG.out.1 2
            have y3 := blk_cell HG.out.1 3
            have x11 := blk_cell HG.out.2.1 11
            simp only [List.getElem?_toArray, List.getElem?_cons_succ, List.getElem?_cons_zero] at y0 y1 y2 y3 x11
            have hyl := Lib.hid (blk_lt HG.out.1)
            go_wp2_with (first | (at_builtin; refine Kd.R_append k80 (w0 := w9) w9.heap.size rfl (.tmp 144) (.tmp 146) 58 80 _ _ rfl Tryd.underlying58 infoRel rfl (by decide) (by omega) (.slice AX XS.length cX) XS (⟨i0, i1, i2, j3⟩ : S80) _ (fun j => j ≠ wr.heap.size) (fun _ => False) rfl rfl (k80_mkM _ _ _ _) (fun _ h => h.elim) (fun j hj => (Nat.ne_of_lt (Nat.lt_of_lt_of_le hyl.out hj)).symm) HG.out.2.2.1 HB6.out HB6.out.size (by omega) ?_))
            intro v6 w6 hR6 hB6 hG6 hat6
            obtain ⟨A6, c6, rfl⟩ := Kd.R_slice hR6
            have hx6 := blk_grown HG.out.2.1 hG6 (Kd.R_ne HG.out.2.2.1 HG.out.2.1 (by decide))
            have q11 := blk_cell hx6 11
            simp only [List.getElem?_toArray, List.getElem?_cons_succ, List.getElem?_cons_zero] at q11
            have f11 := blk_frozen hx6 11
            have HS6 := Lib.hid (And.intro (blk_put hx6 11 (.slice A6 (XS ++ [(⟨i0, i1, i2, j3⟩ : S80)]).length c6) rfl) (And.intro (Kd.R_mono (ok' := fun _ => True) (Kd.R_set hR6 hx6 (by decide) 11 (.slice A6 (XS ++ [(⟨i0, i1, i2, j3⟩ : S80)]).length c6)) (fun _ _ => trivial)) ((HG.out.2.2.2.grown HG.out.2.2.1 hG6 (fun j hj he => Nat.not_lt_of_le (Kd.R_base HG.out.2.2.1 j he.symm) hj) (HMB.out.trans (hB6.mono HMB.out.size))).far (fun j hj => Nat.ne_of_lt hj) hg2 hg1 11 (.slice A6 (XS ++ [(⟨i0, i1, i2, j3⟩ : S80)]).length c6))))
            have HB7 := Lib.hid (hB6.setCell (p := ⟨w9.heap.size, 11, none⟩) (Nat.le_refl _) (.slice A6 (XS ++ [(⟨i0, i1, i2, j3⟩ : S80)]).length c6))
            clear hx6 hR6 hB6 hG6 hat6 y0 y1 y2 y3 x11
            have hrel2 : relocR isA LSn x = (⟨i0, i1, i2, j3⟩ : S80) := by
              unfold relocR
              rw [← HI.out.1, ← HI.out.2.1, ← HI.out.2.2, ← HJ.out]
            have HRL := Lib.hid hrel2
            clear hrel2
            go_wp2
            go_roundw
            case rel =>
              refine ⟨k + 1, .slice A6 (XS ++ [(⟨i0, i1, i2, j3⟩ : S80)]).length c6, by omega, by omega, by go_num, Lib.hid ⟨?_, ?_, ?_⟩, Lib.hid ?_⟩
              · simpa using HS6.out.1
              · rw [HSK.out, HRL.out]; simpa using HS6.out.2.1
              · simpa using HS6.out.2.2
              · simpa using HB7.out
            case measure => simp [intOf]; omega
      · skip
        have hT : (rs.take k).map (relocR isA LSn) = (rs.take 6).map (relocR isA LSn) := by
          by_cases h : k = 6
          · rw [h]
          · rw [List.take_of_length_le (by omega), List.take_of_length_le (by omega)]
        rw [hT] at HH
        clear hT
        obtain ⟨RS, hRS⟩ : ∃ RS, RS = (rs.take 6).map (relocR isA LSn) := ⟨_, rfl⟩
        rw [← hRS] at HH
        have HRS := Lib.hid hRS
        clear hRS
        obtain ⟨AX, cX, rfl⟩ := Kd.R_slice HH.out.2.1
        have HX := HH.out.1
        have x0 := blk_cell HX 0
        have x1 := blk_cell HX 1
        have x2 := blk_cell HX 2
        have x3 := blk_cell HX 3
        have x4 := blk_cell HX 4
        have x5 := blk_cell HX 5
        have x6 := blk_cell HX 6
        have x7 := blk_cell HX 7
        have x8 := blk_cell HX 8
        have x9 := blk_cell HX 9
        have x10 := blk_cell HX 10
        have x11 := blk_cell HX 11
        have x12 := blk_cell HX 12
        have q9 := blk_cell HH.out.2.2.1 9
        simp only [List.getElem?_toArray, List.getElem?_cons_succ, List.getElem?_cons_zero] at x0 x1 x2 x3 x4 x5 x6 x7 x8 x9 x10 x11 x12 q9
        clear HX HBB
        by_cases h : k < rs.length
        · have h2 : ¬ k < 6 := by omega
          go_wp2_with (first | (at_builtin; refine Kd.R_append k61 (w0 := w) w.heap.size rfl (.tmp 150) (.tmp 152) 31 61 _ _ rfl Tryd.underlying31 info61 rfl (by decide) (by omega) (.slice A8 L2.length c8) L2 (⟨⟨#[46, 114, 101, 108]⟩, ty, 0, 0, table, target, 0, en, 0, ⟨#[]⟩, [], RS, []⟩ : S61) _ (fun _ => True) (fun j => True ∧ some j ≠ (Value.slice A8 L2.length c8).ownBlock) rfl rfl (k61_mkM _ _ _ _ (Kd.R_nil _ _ _ _ _) (Kd.R_apart' (Kd.R_lower HH.out.2.1 HMB.out.size) (Kd.R_typed HH.out.2.2.2.1) (by decide)) (Kd.R_nil _ _ _ _ _)) (fun j h => ⟨trivial, h.2⟩) (fun _ _ => trivial) (Kd.R_mono HH.out.2.2.2.1 (fun _ _ => trivial)) HH.out.2.2.2.2.1 HH.out.2.2.2.2.1.size (by omega) ?_))
          intro v6 w6 hR6 hB6 hG6 hat6
          obtain ⟨A6, c6, rfl⟩ := Kd.R_slice hR6
          have hm6 := blk_grown HH.out.2.2.1 hG6 (Kd.R_ne HH.out.2.2.2.1 HH.out.2.2.1 (by decide))
          have q96 := blk_cell hm6 9
          simp only [List.getElem?_toArray, List.getElem?_cons_succ, List.getElem?_cons_zero] at q96
          have f96 := blk_frozen hm6 9
          have HS6 := Lib.hid (MSt.put HH.out.2.2 hG6 hR6 hB6)
          have hrs : (⟨⟨#[46, 114, 101, 108]⟩, ty, 0, 0, table, target, 0, en, 0, ⟨#[]⟩, [], RS, []⟩ : S61) = relS (flagB fl 8) table target z2 z3 LSn rs := by
            unfold relS
            rw [HRS.out, HTE.out.1, HTE.out.2, HA.out]; rfl
          have HRE := Lib.hid hrs
          clear hm6 hR6 hB6 hG6 hat6 hrs
          go_wp2
          refine HK.out _ _ _ _ _ _ _ _ _ _ _ _ _ _ _ _ _ _ _ _ _ _ _ _ _ _ _ _ _ _ _ _ _ _ _ _ _ _ _ _ _ _ _ _ _ _ _ _ _ _ _ _ _ _ _ _ _ _ _ _ _ _ _ _ _ _ _ _ _ _ _ _ _ _ _ _ _ _ (.slice A6 (L2.length + 1) c6) _ ?_
          have h := HS6.out
          rw [HRE.out] at h
          simpa using h
        · go_wp2_with (first | (at_builtin; refine Kd.R_append k61 (w0 := w) w.heap.size rfl (.tmp 150) (.tmp 152) 31 61 _ _ rfl Tryd.underlying31 info61 rfl (by decide) (by omega) (.slice A8 L2.length c8) L2 (⟨⟨#[46, 114, 101, 108]⟩, ty, 0, 0, table, target, 0, en, 0, ⟨#[]⟩, [], RS, []⟩ : S61) _ (fun _ => True) (fun j => True ∧ some j ≠ (Value.slice A8 L2.length c8).ownBlock) rfl rfl (k61_mkM _ _ _ _ (Kd.R_nil _ _ _ _ _) (Kd.R_apart' (Kd.R_lower HH.out.2.1 HMB.out.size) (Kd.R_typed HH.out.2.2.2.1) (by decide)) (Kd.R_nil _ _ _ _ _)) (fun j h => ⟨trivial, h.2⟩) (fun _ _ => trivial) (Kd.R_mono HH.out.2.2.2.1 (fun _ _ => trivial)) HH.out.2.2.2.2.1 HH.out.2.2.2.2.1.size (by omega) ?_))
          intro v6 w6 hR6 hB6 hG6 hat6
          obtain ⟨A6, c6, rfl⟩ := Kd.R_slice hR6
          have hm6 := blk_grown HH.out.2.2.1 hG6 (Kd.R_ne HH.out.2.2.2.1 HH.out.2.2.1 (by decide))
          have q96 := blk_cell hm6 9
          simp only [List.getElem?_toArray, List.getElem?_cons_succ, List.getElem?_cons_zero] at q96
          have f96 := blk_frozen hm6 9
          have HS6 := Lib.hid (MSt.put HH.out.2.2 hG6 hR6 hB6)
          have hrs : (⟨⟨#[46, 114, 101, 108]⟩, ty, 0, 0, table, target, 0, en, 0, ⟨#[]⟩, [], RS, []⟩ : S61) = relS (flagB fl 8) table target z2 z3 LSn rs := by
            unfold relS
            rw [HRS.out, HTE.out.1, HTE.out.2, HA.out]; rfl
          have HRE := Lib.hid hrs
          clear hm6 hR6 hB6 hG6 hat6 hrs
          go_wp2
          refine HK.out _ _ _ _ _ _ _ _ _ _ _ _ _ _ _ _ _ _ _ _ _ _ _ _ _ _ _ _ _ _ _ _ _ _ _ _ _ _ _ _ _ _ _ _ _ _ _ _ _ _ _ _ _ _ _ _ _ _ _ _ _ _ _ _ _ _ _ _ _ _ _ _ _ _ _ _ _ _ (.slice A6 (L2.length + 1) c6) _ ?_
          have h := HS6.out
          rw [HRE.out] at h
          simpa using h
end Go.Proofs.YtkbamfiokhmpjaaDoor

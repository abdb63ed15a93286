/- Contracts over this translation, plans' models: made's last part, the segments. -/
import Derived.Test.YtkbamfiokhmpjaaDoorXKdM17D
namespace Go.Proofs.YtkbamfiokhmpjaaDoor
set_option linter.unusedVariables false
set_option linter.unusedSimpArgs false
open Go.RowKit Go.Proofs.YtkbamfiokhmpjaaDoorX.Kd Go.Proofs.YtkbamfiokhmpjaaDoorW.PrintWords Go.Proofs.YtkbamfiokhmpjaaDoorW.PrintLast Go.Proofs.YtkbamfiokhmpjaaDoorW.PrintMore
attribute [local go_sem] max2_int min2_int max_two min_two

set_option maxRecDepth 100000 in
set_option maxHeartbeats 16000000 in
theorem made_tail (fl : Int) (ds : List ByteArray) (n1 n2 n3 : Nat) (a1 a2 a3 a4 AA : Option Addr) (c1 c2 c3 c4 cA : Nat) (w wc : World) (m : Nat) (wide big : Bool) (LA : List S61) (hd4 : Kd.C Kd.string w a4 ds.length ds) (hma : MSt w wc m wide big #[.int .i64 fl, .slice a1 n1 c1, .slice a2 n2 c2, .slice a3 n3 c3, .slice a4 ds.length c4] #[.bool false, .bool false, .int .u8 0, .int .u8 0, .int .u64 0, .int .u64 0, .int .u64 0, .int .u64 0, .int .u64 0, .slice none 0 0, .slice none 0 0] (fun _ => True) (.slice AA LA.length cA) LA (.slice none 0 0))
    (u0 u4 u5 u6 u7 u8 u9 u10 u11 u12 u13 u14 u15 u16 u17 u18 u19 u20 u21 u22 u23 u24 u25 u26 u27 u28 u29 u30 u31 u32 u33 u34 u35 u36 u37 u38 u39 u40 u41 u42 u43 u44 u45 u46 u47 u48 u49 u50 u51 u52 u53 u54 u55 u56 u57 u58 u59 u60 u61 u62 u63 u64 u65 u66 u67 u68 u69 u70 u71 u72 u73 u74 u75 u76 u77 u78 u79 u80 u81 u82 u83 u84 u85 u86 u87 u88 u89 u90 u91 u92 u93 u94 u95 u96 u97 u98 u99 u100 u101 u102 u103 u104 u105 u106 u107 u108 u109 u110 u111 u112 u113 u114 u115 u116 u117 u118 u119 u120 u121 u122 u123 u124 u125 u126 u127 u128 u129 u130 u131 u132 u133 u134 u135 u136 u137 u138 u139 u140 u141 u142 u143 u144 u145 u146 u147 u148 u149 u150 u151 u152 u153 u154 u155 u156 u157 u158 u159 u160 u161 u162 u163 u164 u165 u166 u167 u168 u169 u170 u171 u172 u173 u174 u175 u176 u177 u178 u179 u180 u181 u182 u183 u184 u185 u186 u187 u188 u189 u190 u191 u192 u193 u194 u195 u196 u197 u198 u199 u200 u201 u202 u203 u204 u205 u206 u207 u208 u209 u210 u211 u212 u213 u214 u215 u216 u217 u218 u219 : Value) :
    Code.wp Tryd.prog madeTail (bodyPost Tryd.prog Tryd.f7 fun e w' => ∃ v9 v10, e = .returned (.agg #[.bool wide, .bool big, .int .u8 3, .int .u8 0, .int .u64 1, .int .u64 243, .int .u64 16, .int .u64 5, .int .u64 1, v9, v10]) ∧ Kd.R k61 61 w' w.heap.size (fun _ => True) v9 LA ∧ Kd.R k82 82 w' w.heap.size (fun _ => True) v10 (segsR ds) ∧ Below w.heap.size w w') ⟨#[u0, .pointer (some ⟨w.heap.size, 0, none⟩), .pointer (some ⟨w.heap.size + 1, 0, none⟩), .pointer (some ⟨m, 0, none⟩), u4, u5, u6, u7, u8, u9, u10, u11, u12, u13, u14, u15, u16, u17, u18, u19, u20, u21, u22, u23, u24, u25, u26, u27, u28, u29, u30, u31, u32, u33, u34, u35, u36, u37, u38, u39, u40, u41, u42, u43, u44, u45, u46, u47, u48, u49, u50, u51, u52, u53, u54, u55, u56, u57, u58, u59, u60, u61, u62, u63, u64, u65, u66, u67, u68, u69, u70, u71, u72, u73, u74, u75, u76, u77, u78, u79, u80, u81, u82, u83, u84, u85, u86, u87, u88, u89, u90, u91, u92, u93, u94, u95, u96, u97, u98, u99, u100, u101, u102, u103, u104, u105, u106, u107, u108, u109, u110, u111, u112, u113, u114, u115, u116, u117, u118, u119, u120, u121, u122, u123, u124, u125, u126, u127, u128, u129, u130, u131, u132, u133, u134, u135, u136, u137, u138, u139, u140, u141, u142, u143, u144, u145, u146, u147, u148, u149, u150, u151, u152, u153, u154, u155, u156, u157, u158, u159, u160, u161, u162, u163, u164, u165, u166, u167, u168, u169, u170, u171, u172, u173, u174, u175, u176, u177, u178, u179, u180, u181, u182, u183, u184, u185, u186, u187, u188, u189, u190, u191, u192, u193, u194, u195, u196, u197, u198, u199, u200, u201, u202, u203, u204, u205, u206, u207, u208, u209, u210, u211, u212, u213, u214, u215, u216, u217, u218, u219], []⟩ wc := by
  conv => arg 2; whnf
  have H4 := Lib.hid hd4
  have HMA := Lib.hid hma
  clear hd4 hma
  go_wp2
  go_loopw [16] (fun i wr => ∃ (k : Nat) (vs : Value), k ≤ ds.length ∧ k ≤ 3 ∧ i = .int .i64 k ∧ Hid (MSt w wr m wide big #[.int .i64 fl, .slice a1 n1 c1, .slice a2 n2 c2, .slice a3 n3 c3, .slice a4 ds.length c4] #[.bool false, .bool false, .int .u8 0, .int .u8 0, .int .u64 0, .int .u64 0, .int .u64 0, .int .u64 0, .int .u64 0, .slice none 0 0, .slice none 0 0] (fun _ => True) (.slice AA LA.length cA) LA vs ∧ Kd.R k82 82 wr w.heap.size (fun _ => True) vs ((ds.take k).zipIdx.map fun p => segR p.2 p.1))) (fun i _ => 3 - (intOf i).toNat)
  case atStart => exact ⟨0, _, Nat.zero_le _, Nat.zero_le _, rfl, Lib.hid ⟨HMA.out, by simpa using Kd.R_nil _ _ _ _ _⟩⟩
  case round =>
    obtain ⟨k, vs, hk1, hk3, rfl, HH⟩ := hrel
    clear HMA
    have p4 := blk_cell HH.out.1.2.2.2.1 4
    simp only [List.getElem?_toArray, List.getElem?_cons_succ, List.getElem?_cons_zero] at p4
    by_cases hlt : k < ds.length ∧ k < 3
    · skip
      obtain ⟨hl1, hl2⟩ := hlt
      obtain ⟨ad, hA, p00⟩ := Kd.at_string H4.out (k : Int) (by omega) (by omega)
      subst hA
      rw [Int.toNat_natCast] at p00
      obtain ⟨d, hd⟩ : ∃ d, d = rdOf ByteArray.empty ds (k : Int) := ⟨_, rfl⟩
      have HD := Lib.hid (show d = ds[k] by rw [hd]; unfold rdOf; rw [Int.toNat_natCast]; simp [List.getD, hl1])
      rw [← hd] at p00
      clear hd
      have p0 := (HH.out.1.2.2.1.cell (World.block_lt_of_cell? w _ p00)).trans p00
      have HSG := Lib.hid (segsR_len k ds hl1)
      obtain ⟨m5, hm5⟩ : ∃ m5, m5 = min d.size 40 := ⟨_, rfl⟩
      have hmn : (if (40 : Int) < (d.size : Int) then (40 : Int) else (d.size : Int)) = (m5 : Int) := by split <;> omega
      have hm5l : (m5 : Int) ≤ (d.size : Int) := by omega
      have hm50 : (0 : Int) ≤ (m5 : Int) := by omega
      have HM5 := Lib.hid hm5
      clear hm5
      obtain ⟨D0, hD0⟩ : ∃ D0, D0 = ((ds.take k).zipIdx.map fun p => segR p.2 p.1) := ⟨_, rfl⟩
      rw [← hD0] at HH HSG
      have hD3 : D0.length ≤ 3 := by rw [hD0, List.length_map, List.length_zipIdx, List.length_take]; omega
      clear hD0
      obtain ⟨AD, cD, rfl⟩ := Kd.R_slice HH.out.2
      go_upto_region 32 with (fail)
      have HHd := Lib.hid (And.intro (HH.out.1.below (show Below wr.heap.size wr wr.drew from below_drew1 (Below.refl _ _))) (Kd.R_drew HH.out.2))
      have p4 := blk_cell HHd.out.1.2.2.2.1 4
      have q10 := blk_cell HHd.out.1.1 10
      simp only [List.getElem?_toArray, List.getElem?_cons_succ, List.getElem?_cons_zero] at p4 q10
      have p0d : wr.drew.cell? (ad.add k) = some (.string d) := p0
      refine start_ (n := 26) (S := fun w' => w'.cell? ⟨m, 10, none⟩ = some (.slice AD D0.length cD) ∧ w'.cell? ⟨w.heap.size, 4, none⟩ = some (.slice (some ad) ds.length c4) ∧ w'.cell? (ad.add k) = some (.string d)) (ds := [25]) #[false, false, false, false, false, false, false, false, false, false, false, false, false, false, false, false, false, false, false, false, false, false, false, false, false, false] (by kernel_rfl) (by rfl) (by rfl) ⟨q10, p4, p0d⟩ (fun hHeld => ?_)
      clear p0
      generalize wr.drew = wd at HHd p4 q10 p0d hHeld ⊢
      refine pure_ (i := 0) (N := some 194) (v := ?_) (a' := ?_) #[true, false, false, false, false, false, false, false, false, false, false, false, false, false, false, false, false, false, false, false, false, false, false, false, false, false] rfl rfl (by kernel_rfl) (fun _ _ _ h => h) (Or.inl ⟨by rfl, ?_⟩) ?_ ?_
      rotate_left
      · intro w'
        go_simp
        with_reducible rfl
      rotate_left
      · simp only [Act.put, List.setIfInBounds_toArray, List.set_cons_zero, List.set_cons_succ]
        rfl
      refine take_ (i := 1) (N := some 195) (v := ?_) (a' := ?_) #[true, true, false, false, false, false, false, false, false, false, false, false, false, false, false, false, false, false, false, false, false, false, false, false, false, false] rfl rfl (by kernel_rfl) (fun _ _ _ h => h) (Or.inl ⟨by rfl, ?_⟩) hHeld ?_ ?_
      rotate_left
      · rintro w' ⟨s0, s1, s2⟩
        go_simp
        with_reducible rfl
      rotate_left
      · simp only [Act.put, List.setIfInBounds_toArray, List.set_cons_zero, List.set_cons_succ]
        rfl
      refine pure_ (i := 2) (N := some 196) (v := ?_) (a' := ?_) #[true, true, true, false, false, false, false, false, false, false, false, false, false, false, false, false, false, false, false, false, false, false, false, false, false, false] rfl rfl (by kernel_rfl) (fun _ _ _ h => h) (Or.inl ⟨by rfl, ?_⟩) ?_ ?_
      rotate_left
      · intro w'
        go_simp
        with_reducible rfl
      rotate_left
      · simp only [Act.put, List.setIfInBounds_toArray, List.set_cons_zero, List.set_cons_succ]
        rfl
      refine pure_ (i := 3) (N := some 197) (v := ?_) (a' := ?_) #[true, true, true, true, false, false, false, false, false, false, false, false, false, false, false, false, false, false, false, false, false, false, false, false, false, false] rfl rfl (by kernel_rfl) (fun _ _ _ h => h) (Or.inl ⟨by rfl, ?_⟩) ?_ ?_
      rotate_left
      · intro w'
        go_simp
        with_reducible rfl
      rotate_left
      · simp only [Act.put, List.setIfInBounds_toArray, List.set_cons_zero, List.set_cons_succ]
        rfl
      refine pure_ (i := 4) (N := some 198) (v := ?_) (a' := ?_) #[true, true, true, true, true, false, false, false, false, false, false, false, false, false, false, false, false, false, false, false, false, false, false, false, false, false] rfl rfl (by kernel_rfl) (fun _ _ _ h => h) (Or.inl ⟨by rfl, ?_⟩) ?_ ?_
      rotate_left
      · intro w'
        go_simp
        with_reducible rfl
      rotate_left
      · simp only [Act.put, List.setIfInBounds_toArray, List.set_cons_zero, List.set_cons_succ]
        rfl
      refine pure_ (i := 5) (N := some 199) (v := ?_) (a' := ?_) #[true, true, true, true, true, true, false, false, false, false, false, false, false, false, false, false, false, false, false, false, false, false, false, false, false, false] rfl rfl (by kernel_rfl) (fun _ _ _ h => h) (Or.inl ⟨by rfl, ?_⟩) ?_ ?_
      rotate_left
      · intro w'
        go_simp
        with_reducible rfl
      rotate_left
      · simp only [Act.put, List.setIfInBounds_toArray, List.set_cons_zero, List.set_cons_succ]
        rfl
      refine pure_ (i := 6) (N := some 200) (v := ?_) (a' := ?_) #[true, true, true, true, true, true, true, false, false, false, false, false, false, false, false, false, false, false, false, false, false, false, false, false, false, false] rfl rfl (by kernel_rfl) (fun _ _ _ h => h) (Or.inl ⟨by rfl, ?_⟩) ?_ ?_
      rotate_left
      · intro w'
        go_simp
        with_reducible rfl
      rotate_left
      · simp only [Act.put, List.setIfInBounds_toArray, List.set_cons_zero, List.set_cons_succ]
        rfl
      refine pure_ (i := 7) (N := some 201) (v := ?_) (a' := ?_) #[true, true, true, true, true, true, true, true, false, false, false, false, false, false, false, false, false, false, false, false, false, false, false, false, false, false] rfl rfl (by kernel_rfl) (fun _ _ _ h => h) (Or.inl ⟨by rfl, ?_⟩) ?_ ?_
      rotate_left
      · intro w'
        go_simp
        with_reducible rfl
      rotate_left
      · simp only [Act.put, List.setIfInBounds_toArray, List.set_cons_zero, List.set_cons_succ]
        rfl
      refine pure_ (i := 8) (N := some 202) (v := ?_) (a' := ?_) #[true, true, true, true, true, true, true, true, true, false, false, false, false, false, false, false, false, false, false, false, false, false, false, false, false, false] rfl rfl (by kernel_rfl) (fun _ _ _ h => h) (Or.inl ⟨by rfl, ?_⟩) ?_ ?_
      rotate_left
      · intro w'
        go_simp
        with_reducible rfl
      rotate_left
      · simp only [Act.put, List.setIfInBounds_toArray, List.set_cons_zero, List.set_cons_succ]
        rfl
      refine take_ (i := 9) (N := some 203) (v := ?_) (a' := ?_) #[true, true, true, true, true, true, true, true, true, true, false, false, false, false, false, false, false, false, false, false, false, false, false, false, false, false] rfl rfl (by kernel_rfl) (fun _ _ _ h => h) (Or.inl ⟨by rfl, ?_⟩) hHeld ?_ ?_
      rotate_left
      · rintro w' ⟨s0, s1, s2⟩
        go_simp
        with_reducible rfl
      rotate_left
      · simp only [Act.put, List.setIfInBounds_toArray, List.set_cons_zero, List.set_cons_succ]
        rfl
      refine pure_ (i := 10) (N := some 204) (v := ?_) (a' := ?_) #[true, true, true, true, true, true, true, true, true, true, true, false, false, false, false, false, false, false, false, false, false, false, false, false, false, false] rfl rfl (by kernel_rfl) (fun _ _ _ h => h) (Or.inl ⟨by rfl, ?_⟩) ?_ ?_
      rotate_left
      · intro w'
        go_simp
        with_reducible rfl
      rotate_left
      · simp only [Act.put, List.setIfInBounds_toArray, List.set_cons_zero, List.set_cons_succ]
        rfl
      refine pure_ (i := 11) (N := some 205) (v := ?_) (a' := ?_) #[true, true, true, true, true, true, true, true, true, true, true, true, false, false, false, false, false, false, false, false, false, false, false, false, false, false] rfl rfl (by kernel_rfl) (fun _ _ _ h => h) (Or.inl ⟨by rfl, ?_⟩) ?_ ?_
      rotate_left
      · intro w'
        go_simp
        with_reducible rfl
      rotate_left
      · simp only [Act.put, List.setIfInBounds_toArray, List.set_cons_zero, List.set_cons_succ]
        rfl
      refine take_ (i := 12) (N := some 206) (v := ?_) (a' := ?_) #[true, true, true, true, true, true, true, true, true, true, true, true, true, false, false, false, false, false, false, false, false, false, false, false, false, false] rfl rfl (by kernel_rfl) (fun _ _ _ h => h) (Or.inl ⟨by rfl, ?_⟩) hHeld ?_ ?_
      rotate_left
      · rintro w' ⟨s0, s1, s2⟩
        go_simp
        with_reducible rfl
      rotate_left
      · simp only [Act.put, List.setIfInBounds_toArray, List.set_cons_zero, List.set_cons_succ]
        rfl
      refine pure_ (i := 13) (N := some 207) (v := ?_) (a' := ?_) #[true, true, true, true, true, true, true, true, true, true, true, true, true, true, false, false, false, false, false, false, false, false, false, false, false, false] rfl rfl (by kernel_rfl) (fun _ _ _ h => h) (Or.inl ⟨by rfl, ?_⟩) ?_ ?_
      rotate_left
      · intro w'
        go_simp
        with_reducible rfl
      rotate_left
      · simp only [Act.put, List.setIfInBounds_toArray, List.set_cons_zero, List.set_cons_succ]
        rfl
      refine take_ (i := 14) (N := some 208) (v := ?_) (a' := ?_) #[true, true, true, true, true, true, true, true, true, true, true, true, true, true, true, false, false, false, false, false, false, false, false, false, false, false] rfl rfl (by kernel_rfl) (fun _ _ _ h => h) (Or.inl ⟨by rfl, ?_⟩) hHeld ?_ ?_
      rotate_left
      · rintro w' ⟨s0, s1, s2⟩
        go_simp
        with_reducible rfl
      rotate_left
      · simp only [Act.put, List.setIfInBounds_toArray, List.set_cons_zero, List.set_cons_succ]
        rfl
      refine pure_ (i := 15) (N := some 209) (v := ?_) (a' := ?_) #[true, true, true, true, true, true, true, true, true, true, true, true, true, true, true, true, false, false, false, false, false, false, false, false, false, false] rfl rfl (by kernel_rfl) (fun _ _ _ h => h) (Or.inl ⟨by rfl, ?_⟩) ?_ ?_
      rotate_left
      · intro w'
        go_simp
        with_reducible rfl
      rotate_left
      · simp only [Act.put, List.setIfInBounds_toArray, List.set_cons_zero, List.set_cons_succ]
        rfl
      refine pure_ (i := 16) (N := some 210) (v := ?_) (a' := ?_) #[true, true, true, true, true, true, true, true, true, true, true, true, true, true, true, true, true, false, false, false, false, false, false, false, false, false] rfl rfl (by kernel_rfl) (fun _ _ _ h => h) (Or.inl ⟨by rfl, ?_⟩) ?_ ?_
      rotate_left
      · intro w'
        go_simp
        with_reducible rfl
      rotate_left
      · simp only [Act.put, List.setIfInBounds_toArray, List.set_cons_zero, List.set_cons_succ]
        rfl
      refine take_ (i := 17) (N := some 211) (v := ?_) (a' := ?_) #[true, true, true, true, true, true, true, true, true, true, true, true, true, true, true, true, true, true, false, false, false, false, false, false, false, false] rfl rfl (by kernel_rfl) (fun _ _ _ h => h) (Or.inl ⟨by rfl, ?_⟩) hHeld ?_ ?_
      rotate_left
      · rintro w' ⟨s0, s1, s2⟩
        go_simp
        with_reducible rfl
      rotate_left
      · simp only [Act.put, List.setIfInBounds_toArray, List.set_cons_zero, List.set_cons_succ]
        rfl
      refine pure_ (i := 18) (N := some 212) (v := ?_) (a' := ?_) #[true, true, true, true, true, true, true, true, true, true, true, true, true, true, true, true, true, true, true, false, false, false, false, false, false, false] rfl rfl (by kernel_rfl) (fun _ _ _ h => h) (Or.inl ⟨by rfl, ?_⟩) ?_ ?_
      rotate_left
      · intro w'
        go_simp
        with_reducible rfl
      rotate_left
      · simp only [Act.put, List.setIfInBounds_toArray, List.set_cons_zero, List.set_cons_succ]
        rfl
      refine pure_ (i := 19) (N := some 213) (v := ?_) (a' := ?_) #[true, true, true, true, true, true, true, true, true, true, true, true, true, true, true, true, true, true, true, true, false, false, false, false, false, false] rfl rfl (by kernel_rfl) (fun _ _ _ h => h) (Or.inl ⟨by rfl, ?_⟩) ?_ ?_
      rotate_left
      · intro w'
        go_simp
        with_reducible rfl
      rotate_left
      · simp only [Act.put, List.setIfInBounds_toArray, List.set_cons_zero, List.set_cons_succ]
        rfl
      refine pure_ (i := 20) (N := some 214) (v := ?_) (a' := ?_) #[true, true, true, true, true, true, true, true, true, true, true, true, true, true, true, true, true, true, true, true, true, false, false, false, false, false] rfl rfl (by kernel_rfl) (fun _ _ _ h => h) (Or.inl ⟨by rfl, ?_⟩) ?_ ?_
      rotate_left
      · intro w'
        go_simp
        with_reducible rfl
      rotate_left
      · simp only [Act.put, List.setIfInBounds_toArray, List.set_cons_zero, List.set_cons_succ]
        rfl
      refine pure_ (i := 21) (N := some 215) (v := ?_) (a' := ?_) #[true, true, true, true, true, true, true, true, true, true, true, true, true, true, true, true, true, true, true, true, true, true, false, false, false, false] rfl rfl (by kernel_rfl) (fun _ _ _ h => h) (Or.inl ⟨by rfl, ?_⟩) ?_ ?_
      rotate_left
      · intro w'
        go_simp
        with_reducible rfl
      rotate_left
      · simp only [Act.put, List.setIfInBounds_toArray, List.set_cons_zero, List.set_cons_succ]
        rfl
      refine one_ (i := 22) (N := some 216) #[true, true, true, true, true, true, true, true, true, true, true, true, true, true, true, true, true, true, true, true, true, true, true, false, false, false] rfl rfl (by kernel_rfl) (by decide) (fun K hK => ?_)
      refine value_ (w1 := ?_) (v := ?_) (by rfl) rfl ?_ ?_
      rotate_left 2
      · go_simp
        constructor
        · rfl
        · rfl
      refine hK.out _ _ ⟨blk_cell (blk_alloc HHd.out.1.1 _) 10, blk_cell (blk_alloc HHd.out.1.2.2.2.1 _) 4, ((below_alloc (Below.refl _ _) _).cell (World.block_lt_of_cell? wd _ p0d)).trans p0d⟩ (fun hHeld => ?_)
      clear hK K
      refine norm_ (a' := ?_) ?_ ?_
      rotate_left
      · show Act.put _ (some 216) _ = _
        simp only [Act.put, List.setIfInBounds_toArray, List.set_cons_zero, List.set_cons_succ]
        rfl
      refine one_ (i := 23) (N := some 217) #[true, true, true, true, true, true, true, true, true, true, true, true, true, true, true, true, true, true, true, true, true, true, true, true, false, false] rfl rfl (by kernel_rfl) (by decide) (fun K hK => ?_)
      refine Kd.R_append_step k82 (w0 := w) w.heap.size (by rfl) (.tmp 195) (.tmp 216) 32 82 (.agg #[.int .u64 0, .int .u64 0, .int .u64 0, .int .u64 0, .int .u64 0, .int .u64 0, .string ⟨#[]⟩]) 64 rfl Tryd.underlying32 infoSeg rfl (by decide) (by omega) (.slice AD D0.length cD) D0 (⟨1, IntKind.u64.wrap (IntKind.i64.wrap (4 + (k : Int))), IntKind.u64.wrap (IntKind.i64.wrap (4096 * (k : Int))), 0, 99, 4096, d.extract 0 m5⟩ : S82) _ (fun _ => True) (fun _ => False) rfl rfl (k82_mkM _ _ _ _) (fun _ hk => hk.elim) (fun _ _ => trivial) HHd.out.2 HHd.out.1.2.2.1 HHd.out.1.2.2.1.size (by omega) ?_
      intro vs1 w1 hR1 hB1 hG1 hat1
      obtain ⟨AV, cV, rfl⟩ := Kd.R_slice hR1
      simp only [List.length_append, List.length_singleton] at hR1
      have hm1 := blk_grown HHd.out.1.1 hG1 (Kd.R_ne HHd.out.2 HHd.out.1.1 (by decide))
      have hp1 := blk_grown HHd.out.1.2.2.2.1 hG1 (Kd.R_ne HHd.out.2 HHd.out.1.2.2.2.1 (by decide))
      refine hK.out _ _ ⟨blk_cell hm1 10, blk_cell hp1 4, (hB1.cell (World.block_lt_of_cell? w _ p00)).trans p00⟩ (fun hHeld => ?_)
      clear hK K
      refine norm_ (a' := ?_) ?_ ?_
      rotate_left
      · show Act.put _ (some 217) _ = _
        simp only [Act.put, List.setIfInBounds_toArray, List.set_cons_zero, List.set_cons_succ]
        rfl
      refine pure_ (i := 24) (N := some 218) (v := ?_) (a' := ?_) #[true, true, true, true, true, true, true, true, true, true, true, true, true, true, true, true, true, true, true, true, true, true, true, true, true, false] rfl rfl (by kernel_rfl) (fun _ _ _ h => h) (Or.inl ⟨by rfl, ?_⟩) ?_ ?_
      rotate_left
      · intro w'
        go_simp
        with_reducible rfl
      rotate_left
      · simp only [Act.put, List.setIfInBounds_toArray, List.set_cons_zero, List.set_cons_succ]
        rfl
      refine last_ (i := 25) (N := none) #[true, true, true, true, true, true, true, true, true, true, true, true, true, true, true, true, true, true, true, true, true, true, true, true, true, true] rfl rfl (by kernel_rfl) (by decide) (fun K hK => ?_)
      have q1 := blk_cell hm1 10
      have z1 := blk_frozen hm1 10
      simp only [List.getElem?_toArray, List.getElem?_cons_succ, List.getElem?_cons_zero] at q1
      have HS1 := Lib.hid (MSt.seg HHd.out.1 HHd.out.2 hG1 hR1 hB1)
      clear hm1 hp1 hR1 hB1 hG1 hat1
      refine skip_ (w1 := ?_) (by rfl) rfl ?_ ?_
      rotate_left
      · go_simp
        rfl
      refine hK.out _ _ ?_
      clear hK K
      refine done_ (by kernel_rfl) ?_
      clear q1 z1 p4 q10 p0d hHeld
      all_goals (
        go_wp2
        go_roundw
        case rel =>
          refine ⟨k + 1, _, by omega, by omega, by go_num, Lib.hid ⟨HS1.out.1, ?_⟩⟩
          rw [HSG.out, ← HD.out]
          have b1 : IntKind.i64.wrap (4 + (k : Int)) = 4 + (k : Int) := by rw [IntKind.wrap_i64]; omega
          have b2 : IntKind.i64.wrap (4096 * (k : Int)) = 4096 * (k : Int) := by rw [IntKind.wrap_i64]; omega
          have b3 : IntKind.u64.wrap (4 + (k : Int)) = 4 + (k : Int) := by rw [IntKind.wrap_u64]; omega
          have b4 : IntKind.u64.wrap (4096 * (k : Int)) = 4096 * (k : Int) := by rw [IntKind.wrap_u64]; omega
          have h := HS1.out.2
          rw [HM5.out, b1, b2, b3, b4] at h
          exact h
        case measure => simp [intOf]; omega)
    · skip
      have hT : ((ds.take k).zipIdx.map fun p => segR p.2 p.1) = segsR ds := by
        unfold segsR
        by_cases h : k = 3
        · rw [h]
        · rw [List.take_of_length_le (by omega), List.take_of_length_le (by omega)]
      rw [hT] at HH
      clear hT
      obtain ⟨AD, cD, rfl⟩ := Kd.R_slice HH.out.2
      have q0 := blk_cell HH.out.1.1 0
      have zf0 := blk_frozen HH.out.1.2.2.2.2.1 0
      have zc0 := blk_cell HH.out.1.2.2.2.2.1 0
      have q1 := blk_cell HH.out.1.1 1
      have zf1 := blk_frozen HH.out.1.2.2.2.2.1 1
      have zc1 := blk_cell HH.out.1.2.2.2.2.1 1
      have q2 := blk_cell HH.out.1.1 2
      have zf2 := blk_frozen HH.out.1.2.2.2.2.1 2
      have zc2 := blk_cell HH.out.1.2.2.2.2.1 2
      have q3 := blk_cell HH.out.1.1 3
      have zf3 := blk_frozen HH.out.1.2.2.2.2.1 3
      have zc3 := blk_cell HH.out.1.2.2.2.2.1 3
      have q4 := blk_cell HH.out.1.1 4
      have zf4 := blk_frozen HH.out.1.2.2.2.2.1 4
      have zc4 := blk_cell HH.out.1.2.2.2.2.1 4
      have q5 := blk_cell HH.out.1.1 5
      have zf5 := blk_frozen HH.out.1.2.2.2.2.1 5
      have zc5 := blk_cell HH.out.1.2.2.2.2.1 5
      have q6 := blk_cell HH.out.1.1 6
      have zf6 := blk_frozen HH.out.1.2.2.2.2.1 6
      have zc6 := blk_cell HH.out.1.2.2.2.2.1 6
      have q7 := blk_cell HH.out.1.1 7
      have zf7 := blk_frozen HH.out.1.2.2.2.2.1 7
      have zc7 := blk_cell HH.out.1.2.2.2.2.1 7
      have q8 := blk_cell HH.out.1.1 8
      have zf8 := blk_frozen HH.out.1.2.2.2.2.1 8
      have zc8 := blk_cell HH.out.1.2.2.2.2.1 8
      have q9 := blk_cell HH.out.1.1 9
      have zf9 := blk_frozen HH.out.1.2.2.2.2.1 9
      have zc9 := blk_cell HH.out.1.2.2.2.2.1 9
      have q10 := blk_cell HH.out.1.1 10
      have zf10 := blk_frozen HH.out.1.2.2.2.2.1 10
      have zc10 := blk_cell HH.out.1.2.2.2.2.1 10
      simp only [List.getElem?_toArray, List.getElem?_cons_succ, List.getElem?_cons_zero] at q0 zc0 q1 zc1 q2 zc2 q3 zc3 q4 zc4 q5 zc5 q6 zc6 q7 zc7 q8 zc8 q9 zc9 q10 zc10
      by_cases h : k < ds.length
      · have h2 : ¬ k < 3 := by omega
        go_wp2
        clear q0 zf0 zc0 q1 zf1 zc1 q2 zf2 zc2 q3 zf3 zc3 q4 zf4 zc4 q5 zf5 zc5 q6 zf6 zc6 q7 zf7 zc7 q8 zf8 zc8 q9 zf9 zc9 q10 zf10 zc10
        have h1 := putAll_new (g := w.heap.size + 1) (w := wr) _ [.bool wide, .bool big, .int .u8 3, .int .u8 0, .int .u64 1, .int .u64 243, .int .u64 16, .int .u64 5, .int .u64 1, .slice AA LA.length cA, .slice AD (segsR ds).length cD] HH.out.1.2.2.2.2.1 rfl
        have h2 := Kd.R_mono (ok' := fun _ => True) (putAll_R [.bool wide, .bool big, .int .u8 3, .int .u8 0, .int .u64 1, .int .u64 243, .int .u64 16, .int .u64 5, .int .u64 1, .slice AA LA.length cA, .slice AD (segsR ds).length cD] 0 wr (Kd.R_mono (Kd.R_types HH.out.1.2.1 HH.out.1.2.2.2.2.1 (by decide)) (fun k hk => hk.2))) (fun _ _ => trivial)
        have h3 := Kd.R_mono (ok' := fun _ => True) (putAll_R [.bool wide, .bool big, .int .u8 3, .int .u8 0, .int .u64 1, .int .u64 243, .int .u64 16, .int .u64 5, .int .u64 1, .slice AA LA.length cA, .slice AD (segsR ds).length cD] 0 wr (Kd.R_mono (Kd.R_types HH.out.2 HH.out.1.2.2.2.2.1 (by decide)) (fun k hk => hk.2))) (fun _ _ => trivial)
        have h4 := putAll_below (Nat.le_succ _) [.bool wide, .bool big, .int .u8 3, .int .u8 0, .int .u64 1, .int .u64 243, .int .u64 16, .int .u64 5, .int .u64 1, .slice AA LA.length cA, .slice AD (segsR ds).length cD] 0 wr HH.out.1.2.2.1
        simp only [putAll, Nat.reduceAdd] at h1 h2 h3 h4
        refine ⟨rfl, .agg #[.bool wide, .bool big, .int .u8 3, .int .u8 0, .int .u64 1, .int .u64 243, .int .u64 16, .int .u64 5, .int .u64 1, .slice AA LA.length cA, .slice AD (segsR ds).length cD], ?_, ?_⟩
        · exact results_cell_row rfl _ _ (w.heap.size + 1) 34 #[.bool wide, .bool big, .int .u8 3, .int .u8 0, .int .u64 1, .int .u64 243, .int .u64 16, .int .u64 5, .int .u64 1, .slice AA LA.length cA, .slice AD (segsR ds).length cD] (0, 0) _ rfl h1 Tryd.underlying34 rfl sizeModel
        · exact ⟨_, _, rfl, h2, h3, h4⟩
      · go_wp2
        clear q0 zf0 zc0 q1 zf1 zc1 q2 zf2 zc2 q3 zf3 zc3 q4 zf4 zc4 q5 zf5 zc5 q6 zf6 zc6 q7 zf7 zc7 q8 zf8 zc8 q9 zf9 zc9 q10 zf10 zc10
        have h1 := putAll_new (g := w.heap.size + 1) (w := wr) _ [.bool wide, .bool big, .int .u8 3, .int .u8 0, .int .u64 1, .int .u64 243, .int .u64 16, .int .u64 5, .int .u64 1, .slice AA LA.length cA, .slice AD (segsR ds).length cD] HH.out.1.2.2.2.2.1 rfl
        have h2 := Kd.R_mono (ok' := fun _ => True) (putAll_R [.bool wide, .bool big, .int .u8 3, .int .u8 0, .int .u64 1, .int .u64 243, .int .u64 16, .int .u64 5, .int .u64 1, .slice AA LA.length cA, .slice AD (segsR ds).length cD] 0 wr (Kd.R_mono (Kd.R_types HH.out.1.2.1 HH.out.1.2.2.2.2.1 (by decide)) (fun k hk => hk.2))) (fun _ _ => trivial)
        have h3 := Kd.R_mono (ok' := fun _ => True) (putAll_R [.bool wide, .bool big, .int .u8 3, .int .u8 0, .int .u64 1, .int .u64 243, .int .u64 16, .int .u64 5, .int .u64 1, .slice AA LA.length cA, .slice AD (segsR ds).length cD] 0 wr (Kd.R_mono (Kd.R_types HH.out.2 HH.out.1.2.2.2.2.1 (by decide)) (fun k hk => hk.2))) (fun _ _ => trivial)
        have h4 := putAll_below (Nat.le_succ _) [.bool wide, .bool big, .int .u8 3, .int .u8 0, .int .u64 1, .int .u64 243, .int .u64 16, .int .u64 5, .int .u64 1, .slice AA LA.length cA, .slice AD (segsR ds).length cD] 0 wr HH.out.1.2.2.1
        simp only [putAll, Nat.reduceAdd] at h1 h2 h3 h4
        refine ⟨rfl, .agg #[.bool wide, .bool big, .int .u8 3, .int .u8 0, .int .u64 1, .int .u64 243, .int .u64 16, .int .u64 5, .int .u64 1, .slice AA LA.length cA, .slice AD (segsR ds).length cD], ?_, ?_⟩
        · exact results_cell_row rfl _ _ (w.heap.size + 1) 34 #[.bool wide, .bool big, .int .u8 3, .int .u8 0, .int .u64 1, .int .u64 243, .int .u64 16, .int .u64 5, .int .u64 1, .slice AA LA.length cA, .slice AD (segsR ds).length cD] (0, 0) _ rfl h1 Tryd.underlying34 rfl sizeModel
        · exact ⟨_, _, rfl, h2, h3, h4⟩
end Go.Proofs.YtkbamfiokhmpjaaDoor

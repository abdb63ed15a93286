/- Contracts over this translation, plans' models: made's last part, the segments. -/
import Derived.Test.YtkbamfiokhmpjaaGreatDoorXKdM17D
import Derived.Deep.CutRange
import Derived.BigRegion
import Derived.Deep.DeepCutAuto
namespace Go.Proofs.YtkbamfiokhmpjaaGreatDoor
set_option linter.unusedVariables false
set_option linter.unusedSimpArgs false
open Go.RowKit Go.Proofs.YtkbamfiokhmpjaaGreatDoorX.Kd Go.Proofs.YtkbamfiokhmpjaaGreatDoorW.PrintWords Go.Proofs.YtkbamfiokhmpjaaGreatDoorW.PrintLast Go.Proofs.YtkbamfiokhmpjaaGreatDoorW.PrintMore
attribute [local go_sem] max2_int min2_int max_two min_two

set_option maxRecDepth 100000 in
set_option maxHeartbeats 16000000 in
theorem made_tail (fl : Int) (ds : List ByteArray) (n1 n2 n3 : Nat) (a1 a2 a3 a4 AA : Option Addr) (c1 c2 c3 c4 cA : Nat) (w wc : World) (m : Nat) (wide big : Bool) (LA : List S54) (hd4 : Kd.C Kd.string w a4 ds.length ds) (hma : MSt w wc m wide big #[.int .i64 fl, .slice a1 n1 c1, .slice a2 n2 c2, .slice a3 n3 c3, .slice a4 ds.length c4] #[.bool false, .bool false, .int .u8 0, .int .u8 0, .int .u64 0, .int .u64 0, .int .u64 0, .int .u64 0, .int .u64 0, .slice none 0 0, .slice none 0 0] (fun _ => True) (.slice AA LA.length cA) LA (.slice none 0 0))
    (u0 u4 u5 u6 u7 u8 u9 u10 u11 u12 u13 u14 u15 u16 u17 u18 u19 u20 u21 u22 u23 u24 u25 u26 u27 u28 u29 u30 u31 u32 u33 u34 u35 u36 u37 u38 u39 u40 u41 u42 u43 u44 u45 u46 u47 u48 u49 u50 u51 u52 u53 u54 u55 u56 u57 u58 u59 u60 u61 u62 u63 u64 u65 u66 u67 u68 u69 u70 u71 u72 u73 u74 u75 u76 u77 u78 u79 u80 u81 u82 u83 u84 u85 u86 u87 u88 u89 u90 u91 u92 u93 u94 u95 u96 u97 u98 u99 u100 u101 u102 u103 u104 u105 u106 u107 u108 u109 u110 u111 u112 u113 u114 u115 u116 u117 u118 u119 u120 u121 u122 u123 u124 u125 u126 u127 u128 u129 u130 u131 u132 u133 u134 u135 u136 u137 u138 u139 u140 u141 u142 u143 u144 u145 u146 u147 u148 u149 u150 u151 u152 u153 u154 u155 u156 u157 u158 u159 u160 u161 u162 u163 u164 u165 u166 u167 u168 u169 u170 u171 u172 u173 u174 u175 u176 u177 u178 u179 u180 u181 u182 u183 u184 u185 u186 u187 u188 u189 u190 u191 u192 u193 u194 u195 u196 u197 u198 u199 u200 u201 u202 u203 u204 u205 u206 u207 u208 u209 u210 u211 u212 u213 u214 u215 u216 u217 u218 u219 : Value) :
    Code.wp Tryz.prog madeTail (bodyPost Tryz.prog Tryz.f5 fun e w' => ∃ v9 v10, e = .returned (.agg #[.bool wide, .bool big, .int .u8 3, .int .u8 0, .int .u64 1, .int .u64 243, .int .u64 16, .int .u64 5, .int .u64 1, v9, v10]) ∧ Kd.R k54 54 w' w.heap.size (fun _ => True) v9 LA ∧ Kd.R k76 76 w' w.heap.size (fun _ => True) v10 (segsR ds) ∧ Below w.heap.size w w') ⟨#[u0, .pointer (some ⟨w.heap.size, 0, none⟩), .pointer (some ⟨w.heap.size + 1, 0, none⟩), .pointer (some ⟨m, 0, none⟩), u4, u5, u6, u7, u8, u9, u10, u11, u12, u13, u14, u15, u16, u17, u18, u19, u20, u21, u22, u23, u24, u25, u26, u27, u28, u29, u30, u31, u32, u33, u34, u35, u36, u37, u38, u39, u40, u41, u42, u43, u44, u45, u46, u47, u48, u49, u50, u51, u52, u53, u54, u55, u56, u57, u58, u59, u60, u61, u62, u63, u64, u65, u66, u67, u68, u69, u70, u71, u72, u73, u74, u75, u76, u77, u78, u79, u80, u81, u82, u83, u84, u85, u86, u87, u88, u89, u90, u91, u92, u93, u94, u95, u96, u97, u98, u99, u100, u101, u102, u103, u104, u105, u106, u107, u108, u109, u110, u111, u112, u113, u114, u115, u116, u117, u118, u119, u120, u121, u122, u123, u124, u125, u126, u127, u128, u129, u130, u131, u132, u133, u134, u135, u136, u137, u138, u139, u140, u141, u142, u143, u144, u145, u146, u147, u148, u149, u150, u151, u152, u153, u154, u155, u156, u157, u158, u159, u160, u161, u162, u163, u164, u165, u166, u167, u168, u169, u170, u171, u172, u173, u174, u175, u176, u177, u178, u179, u180, u181, u182, u183, u184, u185, u186, u187, u188, u189, u190, u191, u192, u193, u194, u195, u196, u197, u198, u199, u200, u201, u202, u203, u204, u205, u206, u207, u208, u209, u210, u211, u212, u213, u214, u215, u216, u217, u218, u219], []⟩ wc := by
  conv => arg 2; whnf
  have H4 := Lib.hid hd4
  have HMA := Lib.hid hma
  clear hd4 hma
  go_wp2
  go_loopw [16] (fun i wr => ∃ (k : Nat) (vs : Value), k ≤ ds.length ∧ k ≤ 3 ∧ i = .int .i64 k ∧ Hid (MSt w wr m wide big #[.int .i64 fl, .slice a1 n1 c1, .slice a2 n2 c2, .slice a3 n3 c3, .slice a4 ds.length c4] #[.bool false, .bool false, .int .u8 0, .int .u8 0, .int .u64 0, .int .u64 0, .int .u64 0, .int .u64 0, .int .u64 0, .slice none 0 0, .slice none 0 0] (fun _ => True) (.slice AA LA.length cA) LA vs ∧ Kd.R k76 76 wr w.heap.size (fun _ => True) vs ((ds.take k).zipIdx.map fun p => segR p.2 p.1))) (fun i _ => 3 - (intOf i).toNat)
  case atStart => exact ⟨0, _, Nat.zero_le _, Nat.zero_le _, rfl, Lib.hid ⟨HMA.out, by simpa using Kd.R_nil _ _ _ _ _⟩⟩
  case round =>
    obtain ⟨k, vs, hk1, hk3, rfl, HH⟩ := hrel
    clear HMA
    have p4 := blk_cell HH.out.1.2.2.2.1 4
    simp only [List.getElem?_toArray, List.getElem?_cons_succ, List.getElem?_cons_zero] at p4
    by_cases hlt : k < ds.length ∧ k < 3
    · skip
      obtain ⟨hl1, hl2⟩ := hlt
      obtain ⟨ad, hA, p00⟩ := Kd.at_string H4.out (k : Int) (by omega) (by omega)
      subst hA
      rw [Int.toNat_natCast] at p00
      obtain ⟨d, hd⟩ : ∃ d, d = rdOf ByteArray.empty ds (k : Int) := ⟨_, rfl⟩
      have HD := Lib.hid (show d = ds[k] by rw [hd]; unfold rdOf; rw [Int.toNat_natCast]; simp [List.getD, hl1])
      rw [← hd] at p00
      clear hd
      have p0 := (HH.out.1.2.2.1.cell (World.block_lt_of_cell? w _ p00)).trans p00
      have HSG := Lib.hid (segsR_len k ds hl1)
      obtain ⟨m5, hm5⟩ : ∃ m5, m5 = min d.size 40 := ⟨_, rfl⟩
      have hmn : (if (40 : Int) < (d.size : Int) then (40 : Int) else (d.size : Int)) = (m5 : Int) := by split <;> omega
      have hm5l : (m5 : Int) ≤ (d.size : Int) := by omega
      have hm50 : (0 : Int) ≤ (m5 : Int) := by omega
      have HM5 := Lib.hid hm5
      clear hm5
      obtain ⟨D0, hD0⟩ : ∃ D0, D0 = ((ds.take k).zipIdx.map fun p => segR p.2 p.1) := ⟨_, rfl⟩
      rw [← hD0] at HH HSG
      have hD3 : D0.length ≤ 3 := by rw [hD0, List.length_map, List.length_zipIdx, List.length_take]; omega
      clear hD0
      obtain ⟨AD, cD, rfl⟩ := Kd.R_slice HH.out.2
      go_upto_region 32 with (fail)
      have HHd := Lib.hid (And.intro (HH.out.1.below (show Below wr.heap.size wr wr.drew from below_drew1 (Below.refl _ _))) (Kd.R_drew HH.out.2))
      have p4 := blk_cell HHd.out.1.2.2.2.1 4
      have q10 := blk_cell HHd.out.1.1 10
      simp only [List.getElem?_toArray, List.getElem?_cons_succ, List.getElem?_cons_zero] at p4 q10
      have p0d : wr.drew.cell? (ad.add k) = some (.string d) := p0
      refine start_ (n := 26) (S := fun w' => w'.cell? ⟨m, 10, none⟩ = some (.slice AD D0.length cD) ∧ w'.cell? ⟨w.heap.size, 4, none⟩ = some (.slice (some ad) ds.length c4) ∧ w'.cell? (ad.add k) = some (.string d)) (ds := [25]) #[false, false, false, false, false, false, false, false, false, false, false, false, false, false, false, false, false, false, false, false, false, false, false, false, false, false] (by kernel_rfl) (by rfl) (by rfl) ⟨q10, p4, p0d⟩ (fun hHeld => ?_)
      clear p0
      generalize wr.drew = wd at HHd p4 q10 p0d hHeld ⊢
      refine pure_ (i := 0) (N := some 194) (v := ?_) (a' := ?_) #[true, false, false, false, false, false, false, false, false, false, false, false, false, false, false, false, false, false, false, false, false, false, false, false, false, false] rfl rfl (by kernel_rfl) (fun _ _ _ h => h) (Or.inl ⟨by rfl, ?_⟩) ?_ ?_
      rotate_left
      · intro w'
        go_simp
        with_reducible rfl
      rotate_left
      · simp only [Act.put, List.setIfInBounds_toArray, List.set_cons_zero, List.set_cons_succ]
        rfl
      refine take_ (i := 1) (N := some 195) (v := ?_) (a' := ?_) #[true, true, false, false, false, false, false, false, false, false, false, false, false, false, false, false, false, false, false, false, false, false, false, false, false, false] rfl rfl (by kernel_rfl) (fun _ _ _ h => h) (Or.inl ⟨by rfl, ?_⟩) hHeld ?_ ?_
      rotate_left
      · rintro w' ⟨s0, s1, s2⟩
        go_simp
        with_reducible rfl
      rotate_left
      · simp only [Act.put, List.setIfInBounds_toArray, List.set_cons_zero, List.set_cons_succ]
        rfl
      refine pure_ (i := 2) (N := some 196) (v := ?_) (a' := ?_) #[true, true, true, false, false, false, false, false, false, false, false, false, false, false, false, false, false, false, false, false, false, false, false, false, false, false] rfl rfl (by kernel_rfl) (fun _ _ _ h => h) (Or.inl ⟨by rfl, ?_⟩) ?_ ?_
      rotate_left
      · intro w'
        go_simp
        with_reducible rfl
      rotate_left
      · simp only [Act.put, List.setIfInBounds_toArray, List.set_cons_zero, List.set_cons_succ]
        rfl
      refine pure_ (i := 3) (N := some 197) (v := ?_) (a' := ?_) #[true, true, true, true, false, false, false, false, false, false, false, false, false, false, false, false, false, false, false, false, false, false, false, false, false, false] rfl rfl (by kernel_rfl) (fun _ _ _ h => h) (Or.inl ⟨by rfl, ?_⟩) ?_ ?_
      rotate_left
      · intro w'
        go_simp
        with_reducible rfl
      rotate_left
      · simp only [Act.put, List.setIfInBounds_toArray, List.set_cons_zero, List.set_cons_succ]
        rfl
      refine pure_ (i := 4) (N := some 198) (v := ?_) (a' := ?_) #[true, true, true, true, true, false, false, false, false, false, false, false, false, false, false, false, false, false, false, false, false, false, false, false, false, false] rfl rfl (by kernel_rfl) (fun _ _ _ h => h) (Or.inl ⟨by rfl, ?_⟩) ?_ ?_
      rotate_left
      · intro w'
        go_simp
        with_reducible rfl
      rotate_left
      · simp only [Act.put, List.setIfInBounds_toArray, List.set_cons_zero, List.set_cons_succ]
        rfl
      refine pure_ (i := 5) (N := some 199) (v := ?_) (a' := ?_) #[true, true, true, true, true, true, false, false, false, false, false, false, false, false, false, false, false, false, false, false, false, false, false, false, false, false] rfl rfl (by kernel_rfl) (fun _ _ _ h => h) (Or.inl ⟨by rfl, ?_⟩) ?_ ?_
      rotate_left
      · intro w'
        go_simp
        with_reducible rfl
      rotate_left
      · simp only [Act.put, List.setIfInBounds_toArray, List.set_cons_zero, List.set_cons_succ]
        rfl
      refine pure_ (i := 6) (N := some 200) (v := ?_) (a' := ?_) #[true, true, true, true, true, true, true, false, false, false, false, false, false, false, false, false, false, false, false, false, false, false, false, false, false, false] rfl rfl (by kernel_rfl) (fun _ _ _ h => h) (Or.inl ⟨by rfl, ?_⟩) ?_ ?_
      rotate_left
      · intro w'
        go_simp
        with_reducible rfl
      rotate_left
      · simp only [Act.put, List.setIfInBounds_toArray, List.set_cons_zero, List.set_cons_succ]
        rfl
      refine pure_ (i := 7) (N := some 201) (v := ?_) (a' := ?_) #[true, true, true, true, true, true, true, true, false, false, false, false, false, false, false, false, false, false, false, false, false, false, false, false, false, false] rfl rfl (by kernel_rfl) (fun _ _ _ h => h) (Or.inl ⟨by rfl, ?_⟩) ?_ ?_
      rotate_left
      · intro w'
        go_simp
        with_reducible rfl
      rotate_left
      · simp only [Act.put, List.setIfInBounds_toArray, List.set_cons_zero, List.set_cons_succ]
        rfl
      refine pure_ (i := 8) (N := some 202) (v := ?_) (a' := ?_) #[true, true, true, true, true, true, true, true, true, false, false, false, false, false, false, false, false, false, false, false, false, false, false, false, false, false] rfl rfl (by kernel_rfl) (fun _ _ _ h => h) (Or.inl ⟨by rfl, ?_⟩) ?_ ?_
      rotate_left
      · intro w'
        go_simp
        with_reducible rfl
      rotate_left
      · simp only [Act.put, List.setIfInBounds_toArray, List.set_cons_zero, List.set_cons_succ]
        rfl
      refine take_ (i := 9) (N := some 203) (v := ?_) (a' := ?_) #[true, true, true, true, true, true, true, true, true, true, false, false, false, false, false, false, false, false, false, false, false, false, false, false, false, false] rfl rfl (by kernel_rfl) (fun _ _ _ h => h) (Or.inl ⟨by rfl, ?_⟩) hHeld ?_ ?_
      rotate_left
      · rintro w' ⟨s0, s1, s2⟩
        go_simp
        with_reducible rfl
      rotate_left
      · simp only [Act.put, List.setIfInBounds_toArray, List.set_cons_zero, List.set_cons_succ]
        rfl
      refine pure_ (i := 10) (N := some 204) (v := ?_) (a' := ?_) #[true, true, true, true, true, true, true, true, true, true, true, false, false, false, false, false, false, false, false, false, false, false, false, false, false, false] rfl rfl (by kernel_rfl) (fun _ _ _ h => h) (Or.inl ⟨by rfl, ?_⟩) ?_ ?_
      rotate_left
      · intro w'
        go_simp
        with_reducible rfl
      rotate_left
      · simp only [Act.put, List.setIfInBounds_toArray, List.set_cons_zero, List.set_cons_succ]
        rfl
      refine pure_ (i := 11) (N := some 205) (v := ?_) (a' := ?_) #[true, true, true, true, true, true, true, true, true, true, true, true, false, false, false, false, false, false, false, false, false, false, false, false, false, false] rfl rfl (by kernel_rfl) (fun _ _ _ h => h) (Or.inl ⟨by rfl, ?_⟩) ?_ ?_
      rotate_left
      · intro w'
        go_simp
        with_reducible rfl
      rotate_left
      · simp only [Act.put, List.setIfInBounds_toArray, List.set_cons_zero, List.set_cons_succ]
        rfl
      refine take_ (i := 12) (N := some 206) (v := ?_) (a' := ?_) #[true, true, true, true, true, true, true, true, true, true, true, true, true, false, false, false, false, false, false, false, false, false, false, false, false, false] rfl rfl (by kernel_rfl) (fun _ _ _ h => h) (Or.inl ⟨by rfl, ?_⟩) hHeld ?_ ?_
      rotate_left
      · rintro w' ⟨s0, s1, s2⟩
        go_simp
        with_reducible rfl
      rotate_left
      · simp only [Act.put, List.setIfInBounds_toArray, List.set_cons_zero, List.set_cons_succ]
        rfl
      refine pure_ (i := 13) (N := some 207) (v := ?_) (a' := ?_) #[true, true, true, true, true, true, true, true, true, true, true, true, true, true, false, false, false, false, false, false, false, false, false, false, false, false] rfl rfl (by kernel_rfl) (fun _ _ _ h => h) (Or.inl ⟨by rfl, ?_⟩) ?_ ?_
      rotate_left
      · intro w'
        go_simp
        with_reducible rfl
      rotate_left
      · simp only [Act.put, List.setIfInBounds_toArray, List.set_cons_zero, List.set_cons_succ]
        rfl
      refine take_ (i := 14) (N := some 208) (v := ?_) (a' := ?_) #[true, true, true, true, true, true, true, true, true, true, true, true, true, true, true, false, false, false, false, false, false, false, false, false, false, false] rfl rfl (by kernel_rfl) (fun _ _ _ h => h) (Or.inl ⟨by rfl, ?_⟩) hHeld ?_ ?_
      rotate_left
      · rintro w' ⟨s0, s1, s2⟩
        go_simp
        with_reducible rfl
      rotate_left
      · simp only [Act.put, List.setIfInBounds_toArray, List.set_cons_zero, List.set_cons_succ]
        rfl
      refine pure_ (i := 15) (N := some 209) (v := ?_) (a' := ?_) #[true, true, true, true, true, true, true, true, true, true, true, true, true, true, true, true, false, false, false, false, false, false, false, false, false, false] rfl rfl (by kernel_rfl) (fun _ _ _ h => h) (Or.inl ⟨by rfl, ?_⟩) ?_ ?_
      rotate_left
      · intro w'
        go_simp
        with_reducible rfl
      rotate_left
      · simp only [Act.put, List.setIfInBounds_toArray, List.set_cons_zero, List.set_cons_succ]
        rfl
      refine pure_ (i := 16) (N := some 210) (v := ?_) (a' := ?_) #[true, true, true, true, true, true, true, true, true, true, true, true, true, true, true, true, true, false, false, false, false, false, false, false, false, false] rfl rfl (by kernel_rfl) (fun _ _ _ h => h) (Or.inl ⟨by rfl, ?_⟩) ?_ ?_
      rotate_left
      · intro w'
        go_simp
        with_reducible rfl
      rotate_left
      · simp only [Act.put, List.setIfInBounds_toArray, List.set_cons_zero, List.set_cons_succ]
        rfl
      refine take_ (i := 17) (N := some 211) (v := ?_) (a' := ?_) #[true, true, true, true, true, true, true, true, true, true, true, true, true, true, true, true, true, true, false, false, false, false, false, false, false, false] rfl rfl (by kernel_rfl) (fun _ _ _ h => h) (Or.inl ⟨by rfl, ?_⟩) hHeld ?_ ?_
      rotate_left
      · rintro w' ⟨s0, s1, s2⟩
        go_simp
        with_reducible rfl
      rotate_left
      · simp only [Act.put, List.setIfInBounds_toArray, List.set_cons_zero, List.set_cons_succ]
        rfl
      refine pure_ (i := 18) (N := some 212) (v := ?_) (a' := ?_) #[true, true, true, true, true, true, true, true, true, true, true, true, true, true, true, true, true, true, true, false, false, false, false, false, false, false] rfl rfl (by kernel_rfl) (fun _ _ _ h => h) (Or.inl ⟨by rfl, ?_⟩) ?_ ?_
      rotate_left
      · intro w'
        go_simp
        with_reducible rfl
      rotate_left
      · simp only [Act.put, List.setIfInBounds_toArray, List.set_cons_zero, List.set_cons_succ]
        rfl
      refine pure_ (i := 19) (N := some 213) (v := ?_) (a' := ?_) #[true, true, true, true, true, true, true, true, true, true, true, true, true, true, true, true, true, true, true, true, false, false, false, false, false, false] rfl rfl (by kernel_rfl) (fun _ _ _ h => h) (Or.inl ⟨by rfl, ?_⟩) ?_ ?_
      rotate_left
      · intro w'
        go_simp
        with_reducible rfl
      rotate_left
      · simp only [Act.put, List.setIfInBounds_toArray, List.set_cons_zero, List.set_cons_succ]
        rfl
      refine pure_ (i := 20) (N := some 214) (v := ?_) (a' := ?_) #[true, true, true, true, true, true, true, true, true, true, true, true, true, true, true, true, true, true, true, true, true, false, false, false, false, false] rfl rfl (by kernel_rfl) (fun _ _ _ h => h) (Or.inl ⟨by rfl, ?_⟩) ?_ ?_
      rotate_left
      · intro w'
        go_simp
        with_reducible rfl
      rotate_left
      · simp only [Act.put, List.setIfInBounds_toArray, List.set_cons_zero, List.set_cons_succ]
        rfl
      refine pure_ (i := 21) (N := some 215) (v := ?_) (a' := ?_) #[true, true, true, true, true, true, true, true, true, true, true, true, true, true, true, true, true, true, true, true, true, true, false, false, false, false] rfl rfl (by kernel_rfl) (fun _ _ _ h => h) (Or.inl ⟨by rfl, ?_⟩) ?_ ?_
      rotate_left
      · intro w'
        go_simp
        with_reducible rfl
      rotate_left
      · simp only [Act.put, List.setIfInBounds_toArray, List.set_cons_zero, List.set_cons_succ]
        rfl
      refine one_ (i := 22) (N := some 216) #[true, true, true, true, true, true, true, true, true, true, true, true, true, true, true, true, true, true, true, true, true, true, true, false, false, false] rfl rfl (by kernel_rfl) (by decide) (fun K hK => ?_)
      refine value_ (w1 := ?_) (v := ?_) (by rfl) rfl ?_ ?_
      rotate_left 2
      · go_simp
        constructor
        · rfl
        · rfl
      refine hK.out _ _ ⟨blk_cell (blk_alloc HHd.out.1.1 _) 10, blk_cell (blk_alloc HHd.out.1.2.2.2.1 _) 4, ((below_alloc (Below.refl _ _) _).cell (World.block_lt_of_cell? wd _ p0d)).trans p0d⟩ (fun hHeld => ?_)
      clear hK K
      refine norm_ (a' := ?_) ?_ ?_
      rotate_left
      · show Act.put _ (some 216) _ = _
        simp only [Act.put, List.setIfInBounds_toArray, List.set_cons_zero, List.set_cons_succ]
        rfl
      refine one_ (i := 23) (N := some 217) #[true, true, true, true, true, true, true, true, true, true, true, true, true, true, true, true, true, true, true, true, true, true, true, true, false, false] rfl rfl (by kernel_rfl) (by decide) (fun K hK => ?_)
      refine Kd.R_append_step k76 (w0 := w) w.heap.size (by rfl) (.tmp 195) (.tmp 216) 29 76 (.agg #[.int .u64 0, .int .u64 0, .int .u64 0, .int .u64 0, .int .u64 0, .int .u64 0, .string ⟨#[]⟩]) 64 rfl Tryz.underlying29 infoSeg rfl (by decide) (by omega) (.slice AD D0.length cD) D0 (⟨1, IntKind.u64.wrap (IntKind.i64.wrap (4 + (k : Int))), IntKind.u64.wrap (IntKind.i64.wrap (4096 * (k : Int))), 0, 99, 4096, d.extract 0 m5⟩ : S76) _ (fun _ => True) (fun _ => False) rfl rfl (k76_mkM _ _ _ _) (fun _ hk => hk.elim) (fun _ _ => trivial) HHd.out.2 HHd.out.1.2.2.1 HHd.out.1.2.2.1.size (by omega) ?_
      intro vs1 w1 hR1 hB1 hG1 hat1
      obtain ⟨AV, cV, rfl⟩ := Kd.R_slice hR1
      simp only [List.length_append, List.length_singleton] at hR1
      have hm1 := blk_grown HHd.out.1.1 hG1 (Kd.R_ne HHd.out.2 HHd.out.1.1 (by decide))
      have hp1 := blk_grown HHd.out.1.2.2.2.1 hG1 (Kd.R_ne HHd.out.2 HHd.out.1.2.2.2.1 (by decide))
      refine hK.out _ _ ⟨blk_cell hm1 10, blk_cell hp1 4, (hB1.cell (World.block_lt_of_cell? w _ p00)).trans p00⟩ (fun hHeld => ?_)
      clear hK K
      refine norm_ (a' := ?_) ?_ ?_
      rotate_left
      · show Act.put _ (some 217) _ = _
        simp only [Act.put, List.setIfInBounds_toArray, List.set_cons_zero, List.set_cons_succ]
        rfl
      refine pure_ (i := 24) (N := some 218) (v := ?_) (a' := ?_) #[true, true, true, true, true, true, true, true, true, true, true, true, true, true, true, true, true, true, true, true, true, true, true, true, true, false] rfl rfl (by kernel_rfl) (fun _ _ _ h => h) (Or.inl ⟨by rfl, ?_⟩) ?_ ?_
      rotate_left
      · intro w'
        go_simp
        with_reducible rfl
      rotate_left
      · simp only [Act.put, List.setIfInBounds_toArray, List.set_cons_zero, List.set_cons_succ]
        rfl
      refine last_ (i := 25) (N := none) #[true, true, true, true, true, true, true, true, true, true, true, true, true, true, true, true, true, true, true, true, true, true, true, true, true, true] rfl rfl (by kernel_rfl) (by decide) (fun K hK => ?_)
      have q1 := blk_cell hm1 10
      have z1 := blk_frozen hm1 10
      simp only [List.getElem?_toArray, List.getElem?_cons_succ, List.getElem?_cons_zero] at q1
      have HS1 := Lib.hid (MSt.seg HHd.out.1 HHd.out.2 hG1 hR1 hB1)
      clear hm1 hp1 hR1 hB1 hG1 hat1
      refine skip_ (w1 := ?_) (by rfl) rfl ?_ ?_
      rotate_left
      · go_simp
        rfl
      refine hK.out _ _ ?_
      clear hK K
      refine done_ (by kernel_rfl) ?_
      clear q1 z1 p4 q10 p0d hHeld
      all_goals (
        go_wp2
        go_roundw
        case rel =>
          refine ⟨k + 1, _, by omega, by omega, by go_num, Lib.hid ⟨HS1.out.1, ?_⟩⟩
          rw [HSG.out, ← HD.out]
          have b1 : IntKind.i64.wrap (4 + (k : Int)) = 4 + (k : Int) := by rw [IntKind.wrap_i64]; omega
          have b2 : IntKind.i64.wrap (4096 * (k : Int)) = 4096 * (k : Int) := by rw [IntKind.wrap_i64]; omega
          have b3 : IntKind.u64.wrap (4 + (k : Int)) = 4 + (k : Int) := by rw [IntKind.wrap_u64]; omega
          have b4 : IntKind.u64.wrap (4096 * (k : Int)) = 4096 * (k : Int) := by rw [IntKind.wrap_u64]; omega
          have h := HS1.out.2
          rw [HM5.out, b1, b2, b3, b4] at h
          exact h
        case measure => simp [intOf]; omega)
    · skip
      have hT : ((ds.take k).zipIdx.map fun p => segR p.2 p.1) = segsR ds := by
        unfold segsR
        by_cases h : k = 3
        · rw [h]
        · rw [List.take_of_length_le (by omega), List.take_of_length_le (by omega)]
      rw [hT] at HH
      clear hT
      obtain ⟨AD, cD, rfl⟩ := Kd.R_slice HH.out.2
      have q0 := blk_cell HH.out.1.1 0
      have zf0 := blk_frozen HH.out.1.2.2.2.2.1 0
      have zc0 := blk_cell HH.out.1.2.2.2.2.1 0
      have q1 := blk_cell HH.out.1.1 1
      have zf1 := blk_frozen HH.out.1.2.2.2.2.1 1
      have zc1 := blk_cell HH.out.1.2.2.2.2.1 1
      have q2 := blk_cell HH.out.1.1 2
      have zf2 := blk_frozen HH.out.1.2.2.2.2.1 2
      have zc2 := blk_cell HH.out.1.2.2.2.2.1 2
      have q3 := blk_cell HH.out.1.1 3
      have zf3 := blk_frozen HH.out.1.2.2.2.2.1 3
      have zc3 := blk_cell HH.out.1.2.2.2.2.1 3
      have q4 := blk_cell HH.out.1.1 4
      have zf4 := blk_frozen HH.out.1.2.2.2.2.1 4
      have zc4 := blk_cell HH.out.1.2.2.2.2.1 4
      have q5 := blk_cell HH.out.1.1 5
      have zf5 := blk_frozen HH.out.1.2.2.2.2.1 5
      have zc5 := blk_cell HH.out.1.2.2.2.2.1 5
      have q6 := blk_cell HH.out.1.1 6
      have zf6 := blk_frozen HH.out.1.2.2.2.2.1 6
      have zc6 := blk_cell HH.out.1.2.2.2.2.1 6
      have q7 := blk_cell HH.out.1.1 7
      have zf7 := blk_frozen HH.out.1.2.2.2.2.1 7
      have zc7 := blk_cell HH.out.1.2.2.2.2.1 7
      have q8 := blk_cell HH.out.1.1 8
      have zf8 := blk_frozen HH.out.1.2.2.2.2.1 8
      have zc8 := blk_cell HH.out.1.2.2.2.2.1 8
      have q9 := blk_cell HH.out.1.1 9
      have zf9 := blk_frozen HH.out.1.2.2.2.2.1 9
      have zc9 := blk_cell HH.out.1.2.2.2.2.1 9
      have q10 := blk_cell HH.out.1.1 10
      have zf10 := blk_frozen HH.out.1.2.2.2.2.1 10
      have zc10 := blk_cell HH.out.1.2.2.2.2.1 10
      simp only [List.getElem?_toArray, List.getElem?_cons_succ, List.getElem?_cons_zero] at q0 zc0 q1 zc1 q2 zc2 q3 zc3 q4 zc4 q5 zc5 q6 zc6 q7 zc7 q8 zc8 q9 zc9 q10 zc10
      by_cases h : k < ds.length
      · have h2 : ¬ k < 3 := by omega
        go_wp2
        clear q0 zf0 zc0 q1 zf1 zc1 q2 zf2 zc2 q3 zf3 zc3 q4 zf4 zc4 q5 zf5 zc5 q6 zf6 zc6 q7 zf7 zc7 q8 zf8 zc8 q9 zf9 zc9 q10 zf10 zc10
        have h1 := putAll_new (g := w.heap.size + 1) (w := wr) _ [.bool wide, .bool big, .int .u8 3, .int .u8 0, .int .u64 1, .int .u64 243, .int .u64 16, .int .u64 5, .int .u64 1, .slice AA LA.length cA, .slice AD (segsR ds).length cD] HH.out.1.2.2.2.2.1 rfl
        have h2 := Kd.R_mono (ok' := fun _ => True) (putAll_R [.bool wide, .bool big, .int .u8 3, .int .u8 0, .int .u64 1, .int .u64 243, .int .u64 16, .int .u64 5, .int .u64 1, .slice AA LA.length cA, .slice AD (segsR ds).length cD] 0 wr (Kd.R_mono (Kd.R_types HH.out.1.2.1 HH.out.1.2.2.2.2.1 (by decide)) (fun k hk => hk.2))) (fun _ _ => trivial)
        have h3 := Kd.R_mono (ok' := fun _ => True) (putAll_R [.bool wide, .bool big, .int .u8 3, .int .u8 0, .int .u64 1, .int .u64 243, .int .u64 16, .int .u64 5, .int .u64 1, .slice AA LA.length cA, .slice AD (segsR ds).length cD] 0 wr (Kd.R_mono (Kd.R_types HH.out.2 HH.out.1.2.2.2.2.1 (by decide)) (fun k hk => hk.2))) (fun _ _ => trivial)
        have h4 := putAll_below (Nat.le_succ _) [.bool wide, .bool big, .int .u8 3, .int .u8 0, .int .u64 1, .int .u64 243, .int .u64 16, .int .u64 5, .int .u64 1, .slice AA LA.length cA, .slice AD (segsR ds).length cD] 0 wr HH.out.1.2.2.1
        simp only [putAll, Nat.reduceAdd] at h1 h2 h3 h4
        refine ⟨rfl, .agg #[.bool wide, .bool big, .int .u8 3, .int .u8 0, .int .u64 1, .int .u64 243, .int .u64 16, .int .u64 5, .int .u64 1, .slice AA LA.length cA, .slice AD (segsR ds).length cD], ?_, ?_⟩
        · exact results_cell_row rfl _ _ (w.heap.size + 1) 31 #[.bool wide, .bool big, .int .u8 3, .int .u8 0, .int .u64 1, .int .u64 243, .int .u64 16, .int .u64 5, .int .u64 1, .slice AA LA.length cA, .slice AD (segsR ds).length cD] (0, 0) _ rfl h1 Tryz.underlying31 rfl sizeModel
        · exact ⟨_, _, rfl, h2, h3, h4⟩
      · go_wp2
        clear q0 zf0 zc0 q1 zf1 zc1 q2 zf2 zc2 q3 zf3 zc3 q4 zf4 zc4 q5 zf5 zc5 q6 zf6 zc6 q7 zf7 zc7 q8 zf8 zc8 q9 zf9 zc9 q10 zf10 zc10
        have h1 := putAll_new (g := w.heap.size + 1) (w := wr) _ [.bool wide, .bool big, .int .u8 3, .int .u8 0, .int .u64 1, .int .u64 243, .int .u64 16, .int .u64 5, .int .u64 1, .slice AA LA.length cA, .slice AD (segsR ds).length cD] HH.out.1.2.2.2.2.1 rfl
        have h2 := Kd.R_mono (ok' := fun _ => True) (putAll_R [.bool wide, .bool big, .int .u8 3, .int .u8 0, .int .u64 1, .int .u64 243, .int .u64 16, .int .u64 5, .int .u64 1, .slice AA LA.length cA, .slice AD (segsR ds).length cD] 0 wr (Kd.R_mono (Kd.R_types HH.out.1.2.1 HH.out.1.2.2.2.2.1 (by decide)) (fun k hk => hk.2))) (fun _ _ => trivial)
        have h3 := Kd.R_mono (ok' := fun _ => True) (putAll_R [.bool wide, .bool big, .int .u8 3, .int .u8 0, .int .u64 1, .int .u64 243, .int .u64 16, .int .u64 5, .int .u64 1, .slice AA LA.length cA, .slice AD (segsR ds).length cD] 0 wr (Kd.R_mono (Kd.R_types HH.out.2 HH.out.1.2.2.2.2.1 (by decide)) (fun k hk => hk.2))) (fun _ _ => trivial)
        have h4 := putAll_below (Nat.le_succ _) [.bool wide, .bool big, .int .u8 3, .int .u8 0, .int .u64 1, .int .u64 243, .int .u64 16, .int .u64 5, .int .u64 1, .slice AA LA.length cA, .slice AD (segsR ds).length cD] 0 wr HH.out.1.2.2.1
        simp only [putAll, Nat.reduceAdd] at h1 h2 h3 h4
        refine ⟨rfl, .agg #[.bool wide, .bool big, .int .u8 3, .int .u8 0, .int .u64 1, .int .u64 243, .int .u64 16, .int .u64 5, .int .u64 1, .slice AA LA.length cA, .slice AD (segsR ds).length cD], ?_, ?_⟩
        · exact results_cell_row rfl _ _ (w.heap.size + 1) 31 #[.bool wide, .bool big, .int .u8 3, .int .u8 0, .int .u64 1, .int .u64 243, .int .u64 16, .int .u64 5, .int .u64 1, .slice AA LA.length cA, .slice AD (segsR ds).length cD] (0, 0) _ rfl h1 Tryz.underlying31 rfl sizeModel
        · exact ⟨_, _, rfl, h2, h3, h4⟩
end Go.Proofs.YtkbamfiokhmpjaaGreatDoor

/- Contracts over this translation, plans' models: made's relocations. -/
namespace Go.Proofs.YtkbamfiokhmpjaaGreatDoor
set_option linter.unusedVariables false
set_option linter.unusedSimpArgs false
open Go.RowKit Go.Proofs.YtkbamfiokhmpjaaGreatDoorX.Kd Go.Proofs.YtkbamfiokhmpjaaGreatDoorW.PrintWords Go.Proofs.YtkbamfiokhmpjaaGreatDoorW.PrintLast Go.Proofs.YtkbamfiokhmpjaaGreatDoorW.PrintMore
attribute [local go_sem] max2_int min2_int max_two min_two

theorem MSt.far {w0 wx : World} {m : Nat} {wide big : Bool} {PC RC : Array Value} {ok : Nat → Prop} {v vs : Value} {L : List S54} (h : MSt w0 wx m wide big PC RC ok v L vs) {g : Nat} (hok : ∀ k, ok k → k ≠ g) (hm : m ≠ g) (h2 : w0.heap.size + 2 ≤ g) (i : Nat) (u : Value) : MSt w0 (wx.setCell ⟨g, i, none⟩ u) m wide big PC RC ok v L vs :=
  ⟨blk_far h.1 (by exact hm) u, Kd.R_far h.2.1 (by exact hok) u, h.2.2.1.setCell (by show w0.heap.size ≤ g; omega) u, blk_far h.2.2.2.1 (by show w0.heap.size ≠ g; omega) u, blk_far h.2.2.2.2.1 (by show w0.heap.size + 1 ≠ g; omega) u, h.2.2.2.2.2⟩
theorem MSt.alloc {w0 wx : World} {m : Nat} {wide big : Bool} {PC RC : Array Value} {ok : Nat → Prop} {v vs : Value} {L : List S54} (h : MSt w0 wx m wide big PC RC ok v L vs) (o : Obj) : MSt w0 (wx.alloc o) m wide big PC RC (fun k => ok k ∧ k ≠ wx.heap.size) v L vs :=
  have h1 := h.below (below_alloc (Below.refl _ _) o)
  ⟨h1.1, Kd.R_alloc (Kd.R_mono (Kd.R_bound h.2.1) (fun k hk => ⟨hk.1, Nat.ne_of_lt hk.2.2.1⟩)) o, h1.2.2⟩
theorem MSt.ok {w0 wx : World} {m : Nat} {wide big : Bool} {PC RC : Array Value} {ok ok' : Nat → Prop} {v vs : Value} {L : List S54} (h : MSt w0 wx m wide big PC RC ok v L vs) (hk : ∀ k, ok k → ok' k) : MSt w0 wx m wide big PC RC ok' v L vs :=
  ⟨h.1, Kd.R_mono h.2.1 hk, h.2.2⟩
theorem MSt.grown {w0 wx w1 : World} {m : Nat} {wide big : Bool} {PC RC : Array Value} {ok ok' : Nat → Prop} {v vs xr : Value} {L : List S54} {D : List S74} {b : Nat} (h : MSt w0 wx m wide big PC RC ok v L vs) (hD : Kd.R k74 74 wx b ok' xr D) (hg : wx.grownBy w1 xr.ownBlock) (hok : ∀ k, ok k → some k ≠ xr.ownBlock) (hb : Below w0.heap.size w0 w1) : MSt w0 w1 m wide big PC RC ok v L vs :=
  ⟨blk_grown h.1 hg (Kd.R_ne hD h.1 (by decide)), Kd.R_grown h.2.1 hg hok, hb, blk_grown h.2.2.2.1 hg (Kd.R_ne hD h.2.2.2.1 (by decide)), blk_grown h.2.2.2.2.1 hg (Kd.R_ne hD h.2.2.2.2.1 (by decide)), h.2.2.2.2.2⟩
theorem MSt.older {w0 wx wy : World} {m : Nat} {wide big : Bool} {PC RC : Array Value} {ok : Nat → Prop} {v vs : Value} {L : List S54} (h : MSt w0 wx m wide big PC RC ok v L vs) (hb : Below wx.heap.size wx wy) : MSt w0 wy m wide big PC RC (fun k => k < wx.heap.size) v L vs :=
  have h1 := h.below hb
  ⟨h1.1, Kd.R_below (Kd.R_mono (Kd.R_bound h.2.1) (fun k hk => hk.2.2.1)) hb, h1.2.2⟩
theorem infoRel : (Tryz.prog.info? 74).map (fun i => (i.zero, i.size, i.bytes)) = some (some (.agg #[.int .u64 0, .int .u64 0, .int .u64 0, .int .u64 0]), 4, 32) := by kernel_rfl
/-- The block of made's relocations. -/
noncomputable def madeRel : Code := thenC (sndC (fstC (sndC (sndC (sndC (sndC (sndC (thenC (sndC (fstC (sndC (sndC (sndC (sndC (sndC madeCode)))))))))))))))
set_option maxRecDepth 100000 in
set_option maxHeartbeats 16000000 in
theorem made_rel (fl : Int) (rs : List S72) (n1 n2 n4 : Nat) (a1 a2 a3 a4 A8 Al : Option Addr) (c1 c2 c3 c4 c8 cl : Nat) (w w9 : World) (m : Nat) (wide big : Bool) (L2 : List S54) (hL2 : L2.length ≤ 10) (z2 z3 target table : Int) (LSn : Nat) (hLS : 1 ≤ LSn ∧ LSn ≤ 17) (hr3 : Kd.C k72 w a3 rs.length rs) (hm9 : MSt w w9 m wide big #[.int .i64 fl, .slice a1 n1 c1, .slice a2 n2 c2, .slice a3 rs.length c3, .slice a4 n4 c4] #[.bool false, .bool false, .int .u8 0, .int .u8 0, .int .u64 0, .int .u64 0, .int .u64 0, .int .u64 0, .int .u64 0, .slice none 0 0, .slice none 0 0] (fun _ => True) (.slice A8 L2.length c8) (L2) (.slice none 0 0))
    (u0 u4 u7 u9 u12 u13 u14 u15 u16 u17 u18 u19 u20 u21 u22 u23 u24 u25 u26 u27 u28 u29 u30 u31 u32 u33 u34 u35 u36 u37 u38 u39 u40 u41 u42 u43 u44 u45 u46 u47 u48 u49 u50 u51 u52 u53 u54 u55 u56 u57 u58 u59 u60 u61 u62 u63 u64 u65 u66 u67 u68 u69 u70 u71 u72 u73 u74 u75 u76 u77 u78 u79 u80 u81 u82 u83 u84 u85 u86 u87 u88 u89 u90 u91 u92 u93 u94 u95 u96 u97 u98 u99 u100 u101 u102 u103 u104 u105 u106 u107 u108 u109 u110 u111 u112 u113 u114 u115 u116 u117 u118 u119 u120 u121 u122 u123 u124 u125 u126 u127 u128 u129 u130 u131 u132 u133 u134 u135 u136 u137 u138 u139 u140 u141 u142 u143 u144 u145 u146 u147 u148 u149 u150 u151 u152 u153 u154 u155 u156 u157 u158 u159 u160 u161 u162 u163 u164 u165 u166 u167 u168 u169 u170 u171 u172 u173 u174 u175 u176 u177 u178 u179 u180 u181 u182 u183 u184 u185 u186 u187 u188 u189 u190 u191 u192 u193 u194 u195 u196 u197 u198 u199 u200 u201 u202 u203 u204 u205 u206 u207 u208 u209 u210 u211 u212 u213 u214 u215 u216 u217 u218 u219 : Value) (K : Act → World → Prop) (Q' : Exit → Act → World → Prop) (hK : ∀ (s13 s14 s15 s80 s81 s82 s83 s84 s85 s86 s87 s88 s89 s90 s91 s92 s93 s94 s95 s96 s97 s98 s99 s100 s101 s102 s103 s104 s105 s106 s107 s108 s109 s110 s111 s112 s113 s114 s115 s116 s117 s118 s119 s120 s121 s122 s123 s124 s125 s126 s127 s128 s129 s130 s131 s132 s133 s134 s135 s136 s137 s138 s139 s140 s141 s142 s143 s144 s145 s146 s147 s148 s149 s150 s151 s152 s153 s154 : Value) (v : Value) (wF : World), MSt w wF m wide big #[.int .i64 fl, .slice a1 n1 c1, .slice a2 n2 c2, .slice a3 rs.length c3, .slice a4 n4 c4] #[.bool false, .bool false, .int .u8 0, .int .u8 0, .int .u64 0, .int .u64 0, .int .u64 0, .int .u64 0, .int .u64 0, .slice none 0 0, .slice none 0 0] (fun _ => True) (v) (L2 ++ [relS (flagB fl 8) table target z2 z3 LSn rs]) (.slice none 0 0) → K ⟨#[u0, .pointer (some ⟨w.heap.size, 0, none⟩), .pointer (some ⟨w.heap.size + 1, 0, none⟩), .pointer (some ⟨m, 0, none⟩), u4, .int .u64 z2, .int .u64 z3, u7, .int .u64 target, u9, .int .u64 table, .slice Al LSn cl, u12, s13, s14, s15, u16, u17, u18, u19, u20, u21, u22, u23, u24, u25, u26, u27, u28, u29, u30, u31, u32, u33, u34, u35, u36, u37, u38, u39, u40, u41, u42, u43, u44, u45, u46, u47, u48, u49, u50, u51, u52, u53, u54, u55, u56, u57, u58, u59, u60, u61, u62, u63, u64, u65, u66, u67, u68, u69, u70, u71, u72, u73, u74, u75, u76, u77, u78, u79, s80, s81, s82, s83, s84, s85, s86, s87, s88, s89, s90, s91, s92, s93, s94, s95, s96, s97, s98, s99, s100, s101, s102, s103, s104, s105, s106, s107, s108, s109, s110, s111, s112, s113, s114, s115, s116, s117, s118, s119, s120, s121, s122, s123, s124, s125, s126, s127, s128, s129, s130, s131, s132, s133, s134, s135, s136, s137, s138, s139, s140, s141, s142, s143, s144, s145, s146, s147, s148, s149, s150, s151, s152, s153, s154, u155, u156, u157, u158, u159, u160, u161, u162, u163, u164, u165, u166, u167, u168, u169, u170, u171, u172, u173, u174, u175, u176, u177, u178, u179, u180, u181, u182, u183, u184, u185, u186, u187, u188, u189, u190, u191, u192, u193, u194, u195, u196, u197, u198, u199, u200, u201, u202, u203, u204, u205, u206, u207, u208, u209, u210, u211, u212, u213, u214, u215, u216, u217, u218, u219], []⟩ wF) :
    Code.wp Tryz.prog madeRel (Exit.then K Q') ⟨#[u0, .pointer (some ⟨w.heap.size, 0, none⟩), .pointer (some ⟨w.heap.size + 1, 0, none⟩), .pointer (some ⟨m, 0, none⟩), u4, .int .u64 z2, .int .u64 z3, u7, .int .u64 target, u9, .int .u64 table, .slice Al LSn cl, u12, u13, u14, u15, u16, u17, u18, u19, u20, u21, u22, u23, u24, u25, u26, u27, u28, u29, u30, u31, u32, u33, u34, u35, u36, u37, u38, u39, u40, u41, u42, u43, u44, u45, u46, u47, u48, u49, u50, u51, u52, u53, u54, u55, u56, u57, u58, u59, u60, u61, u62, u63, u64, u65, u66, u67, u68, u69, u70, u71, u72, u73, u74, u75, u76, u77, u78, u79, u80, u81, u82, u83, u84, u85, u86, u87, u88, u89, u90, u91, u92, u93, u94, u95, u96, u97, u98, u99, u100, u101, u102, u103, u104, u105, u106, u107, u108, u109, u110, u111, u112, u113, u114, u115, u116, u117, u118, u119, u120, u121, u122, u123, u124, u125, u126, u127, u128, u129, u130, u131, u132, u133, u134, u135, u136, u137, u138, u139, u140, u141, u142, u143, u144, u145, u146, u147, u148, u149, u150, u151, u152, u153, u154, u155, u156, u157, u158, u159, u160, u161, u162, u163, u164, u165, u166, u167, u168, u169, u170, u171, u172, u173, u174, u175, u176, u177, u178, u179, u180, u181, u182, u183, u184, u185, u186, u187, u188, u189, u190, u191, u192, u193, u194, u195, u196, u197, u198, u199, u200, u201, u202, u203, u204, u205, u206, u207, u208, u209, u210, u211, u212, u213, u214, u215, u216, u217, u218, u219], []⟩ w9 := by
  conv => arg 2; whnf
  have H3 := Lib.hid hr3
  have HM9 := Lib.hid hm9
  have HMB := Lib.hid hm9.2.2.1
  have HK := Lib.hid hK
  clear hr3 hm9 hK
  obtain ⟨isA, hisA⟩ : ∃ isA, isA = flagB fl 8 := ⟨_, rfl⟩
  have HA := Lib.hid hisA
  have eA : (bits .and .i64 fl 8 == 8) = isA := hisA.symm
  clear hisA
  obtain ⟨wX, hwX⟩ : ∃ wX, wX = w9.alloc (.cells #[.string ⟨#[46, 114, 101, 108]⟩, .int .u64 (9), .int .u64 0, .int .u64 0, .int .u64 table, .int .u64 target, .int .u64 0, .int .u64 (z2), .int .u64 0, .string ⟨#[]⟩, .slice none 0 0, .slice none 0 0, .slice none 0 0] 54) := ⟨_, rfl⟩
  have p0a : ∀ o, (w9.alloc o).cell? ⟨w.heap.size, 0, none⟩ = some (.int .i64 fl) := fun o => blk_cell (blk_alloc HM9.out.2.2.2.1 o) 0
  have HX0 := Lib.hid (show wX.heap[w9.heap.size]? = some (.cells #[.string ⟨#[46, 114, 101, 108]⟩, .int .u64 (9), .int .u64 0, .int .u64 0, .int .u64 table, .int .u64 target, .int .u64 0, .int .u64 (z2), .int .u64 0, .string ⟨#[]⟩, .slice none 0 0, .slice none 0 0, .slice none 0 0] 54 (0, 0)) by rw [hwX]; exact blk_new w9 _)
  have HMX := Lib.hid (show MSt w wX m wide big #[.int .i64 fl, .slice a1 n1 c1, .slice a2 n2 c2, .slice a3 rs.length c3, .slice a4 n4 c4] #[.bool false, .bool false, .int .u8 0, .int .u8 0, .int .u64 0, .int .u64 0, .int .u64 0, .int .u64 0, .int .u64 0, .slice none 0 0, .slice none 0 0] (fun k => k < w9.heap.size) (.slice A8 L2.length c8) (L2) (.slice none 0 0) by rw [hwX]; exact HM9.out.older (below_alloc (Below.refl _ _) _))
  have HBX := Lib.hid (show Below w9.heap.size w9 wX by rw [hwX]; exact below_alloc (Below.refl _ _) _)
  have hg1 : w.heap.size + 2 ≤ w9.heap.size := Nat.le_trans (Nat.succ_le_of_lt (blk_lt HM9.out.2.2.2.2.1)) (Nat.le_refl _)
  have hg2 : m ≠ w9.heap.size := Nat.ne_of_lt (blk_lt HM9.out.1)
  have x1 := blk_cell HX0.out 1
  have x7 := blk_cell HX0.out 7
  simp only [List.getElem?_toArray, List.getElem?_cons_succ, List.getElem?_cons_zero] at x1 x7
  have f1 := blk_frozen HX0.out 1
  have f7 := blk_frozen HX0.out 7
  have HWX := Lib.hid hwX
  clear hwX
  go_upto_if 87 with (fail)
  rw [← HWX.out]
  clear p0a HWX
  go_cut [] from 84 to 90 (fun wx => ∃ (ty en : Int), Hid (ty = (if isA = true then 4 else 9) ∧ en = (if isA = true then z3 else z2)) ∧ Hid (wx.heap[w9.heap.size]? = some (.cells #[.string ⟨#[46, 114, 101, 108]⟩, .int .u64 (ty), .int .u64 0, .int .u64 0, .int .u64 table, .int .u64 target, .int .u64 0, .int .u64 (en), .int .u64 0, .string ⟨#[]⟩, .slice none 0 0, .slice none 0 0, .slice none 0 0] 54 (0, 0)) ∧ MSt w wx m wide big #[.int .i64 fl, .slice a1 n1 c1, .slice a2 n2 c2, .slice a3 rs.length c3, .slice a4 n4 c4] #[.bool false, .bool false, .int .u8 0, .int .u8 0, .int .u64 0, .int .u64 0, .int .u64 0, .int .u64 0, .int .u64 0, .slice none 0 0, .slice none 0 0] (fun k => k < w9.heap.size) (.slice A8 L2.length c8) (L2) (.slice none 0 0)) ∧ Hid (Below w9.heap.size w9 wx))
  case first =>
    cases isA
    · go_wp2
      go_meet
      case rel => exact ⟨_, _, Lib.hid ⟨rfl, rfl⟩, Lib.hid ⟨HX0.out, HMX.out⟩, HBX⟩
    · go_wp2
      go_meet
      case rel => exact ⟨_, _, Lib.hid ⟨rfl, rfl⟩, Lib.hid ⟨blk_put (blk_put HX0.out 1 _ rfl) 7 _ rfl, (HMX.out.far (fun k hk => Nat.ne_of_lt hk) hg2 hg1 1 _).far (fun k hk => Nat.ne_of_lt hk) hg2 hg1 7 _⟩, Lib.hid ((HBX.out.setCell (Nat.le_refl _) _).setCell (Nat.le_refl _) _)⟩
  case rest =>
    obtain ⟨ty, en, HTE, HH0, HB0⟩ := hcut
    clear x1 x7 f1 f7 HX0 HMX eA
    have hty : (ty == 4) = isA := by rw [HTE.out.1]; cases isA <;> rfl
    have hwL : IntKind.u64.wrap (LSn : Int) = (LSn : Int) := by rw [IntKind.wrap_u64]; omega
    have hL0 : (LSn : Int) ≠ 0 := by omega
    have hL1 : LSn ≠ 0 := by omega
    go_wp2
    go_loopw [14] (fun i wr => ∃ (k : Nat) (xr : Value), k ≤ rs.length ∧ k ≤ 6 ∧ i = .int .i64 k ∧ Hid (wr.heap[w9.heap.size]? = some (.cells #[.string ⟨#[46, 114, 101, 108]⟩, .int .u64 (ty), .int .u64 0, .int .u64 0, .int .u64 table, .int .u64 target, .int .u64 0, .int .u64 (en), .int .u64 0, .string ⟨#[]⟩, .slice none 0 0, xr, .slice none 0 0] 54 (0, 0)) ∧ Kd.R k74 74 wr w9.heap.size (fun _ => True) xr ((rs.take k).map (relocR isA LSn)) ∧ MSt w wr m wide big #[.int .i64 fl, .slice a1 n1 c1, .slice a2 n2 c2, .slice a3 rs.length c3, .slice a4 n4 c4] #[.bool false, .bool false, .int .u8 0, .int .u8 0, .int .u64 0, .int .u64 0, .int .u64 0, .int .u64 0, .int .u64 0, .slice none 0 0, .slice none 0 0] (fun k => k < w9.heap.size) (.slice A8 L2.length c8) (L2) (.slice none 0 0)) ∧ Hid (Below w9.heap.size w9 wr)) (fun i _ => 6 - (intOf i).toNat)
    case atStart => exact ⟨0, _, Nat.zero_le _, Nat.zero_le _, rfl, Lib.hid ⟨HH0.out.1, by simpa using Kd.R_nil _ _ _ _ _, HH0.out.2⟩, HB0⟩
    case round =>
      obtain ⟨k, xr, hk1, hk6, rfl, HH, HBB⟩ := hrel
      clear HH0 HB0
      have p3 := blk_cell HH.out.2.2.2.2.2.1 3
      simp only [List.getElem?_toArray, List.getElem?_cons_succ, List.getElem?_cons_zero] at p3
      by_cases hlt : k < rs.length ∧ k < 6
      · skip
        obtain ⟨hl1, hl2⟩ := hlt
        obtain ⟨ad, hA, r0, r1, r2⟩ := at_T72 H3.out (k : Int) (by omega) (by omega)
        subst hA
        rw [Int.toNat_natCast] at r0 r1 r2
        have HXE := Lib.hid (show rd_T72 rs (k : Int) = rs[k] by unfold rd_T72; rw [Int.toNat_natCast]; simp [List.getD, hl1])
        obtain ⟨x, hxe⟩ : ∃ x, x = rd_T72 rs (k : Int) := ⟨_, rfl⟩
        rw [← hxe] at HXE r0 r1 r2
        clear hxe
        have HSK := Lib.hid (show (rs.take (k + 1)).map (relocR isA LSn) = (rs.take k).map (relocR isA LSn) ++ [relocR isA LSn x] by rw [List.take_succ_eq_append_getElem hl1, List.map_append, HXE.out]; rfl)
        have HC := Lib.hid (show ∀ W, Below wr.heap.size wr W → W.cell? ⟨w.heap.size, 3, none⟩ = some (.slice (some ad) rs.length c3) ∧ W.cell? (ad.add (k * 3)) = some (.int .i64 x.f0) ∧ W.cell? ⟨(ad.add (k * 3)).block, (ad.add (k * 3)).off + 1, none⟩ = some (.int .i64 x.f1) ∧ W.cell? ⟨(ad.add (k * 3)).block, (ad.add (k * 3)).off + 2, none⟩ = some (.int .i64 x.f2) from fun W hb => ⟨blk_cell (blk_below HH.out.2.2.2.2.2.1 hb) 3, ((HH.out.2.2.2.2.1.trans (hb.mono HH.out.2.2.2.2.1.size)).cell (World.block_lt_of_cell? w _ r0)).trans r0, ((HH.out.2.2.2.2.1.trans (hb.mono HH.out.2.2.2.2.1.size)).cell (World.block_lt_of_cell? w _ r1)).trans r1, ((HH.out.2.2.2.2.1.trans (hb.mono HH.out.2.2.2.2.1.size)).cell (World.block_lt_of_cell? w _ r2)).trans r2⟩)
        obtain ⟨i0, hi0⟩ : ∃ i0, i0 = IntKind.u64.wrap (bits .and .i64 x.f0 65535) := ⟨_, rfl⟩
        obtain ⟨i1, hi1⟩ : ∃ i1, i1 = Int.tmod (IntKind.u64.wrap (bits .and .i64 x.f1 255)) (LSn : Int) := ⟨_, rfl⟩
        obtain ⟨i2, hi2⟩ : ∃ i2, i2 = IntKind.u64.wrap (bits .and .i64 x.f0 15) := ⟨_, rfl⟩
        obtain ⟨w5, hw5⟩ : ∃ w5, w5 = (wr.alloc (.cells #[.int .u64 i0, .int .u64 i1, .int .u64 i2, .int .u64 0] 74)).drew := ⟨_, rfl⟩
        have HI := Lib.hid (And.intro hi0 (And.intro hi1 hi2))
        have HW5 := Lib.hid hw5
        clear hw5 hi0 hi1 hi2 r0 r1 r2
        go_upto_region 20 with (fail)
        go_cut [15] from 91 to 148 (fun s15 wx => s15 = .pointer (some ⟨wr.heap.size, 0, none⟩) ∧ wx = w5)
        case first =>
          go_region_held3 (fun W => W.cell? ⟨w.heap.size, 3, none⟩ = some (.slice (some ad) rs.length c3) ∧ W.cell? (ad.add (k * 3)) = some (.int .i64 x.f0) ∧ W.cell? ⟨(ad.add (k * 3)).block, (ad.add (k * 3)).off + 1, none⟩ = some (.int .i64 x.f1) ∧ W.cell? ⟨(ad.add (k * 3)).block, (ad.add (k * 3)).off + 2, none⟩ = some (.int .i64 x.f2))
            (exact HC.out _ (by repeat (first | with_reducible exact Below.refl _ _ | with_reducible assumption | with_reducible apply below_alloc | with_reducible apply pw_below_drewN | with_reducible apply below_drew1)))
            (fail)
          all_goals (go_wp2_with fail; go_meet; exact ⟨rfl, by rw [HW5.out, HI.out.1, HI.out.2.1, HI.out.2.2]⟩)
        case rest =>
          obtain ⟨rfl, rfl⟩ := hcut
          have hb5 : Below wr.heap.size wr wc := by rw [HW5.out]; exact Go.below_drewN ((Below.refl _ _).alloc (Nat.le_refl _) _) 1
          have HY := Lib.hid (show wc.heap[wr.heap.size]? = some (.cells #[.int .u64 i0, .int .u64 i1, .int .u64 i2, .int .u64 0] 74 (0, 0)) by rw [HW5.out]; exact blk_new wr _)
          have HX5 := Lib.hid (blk_below HH.out.1 hb5)
          have HR5 := Lib.hid (Kd.R_below (Kd.R_mono (ok' := fun j => j ≠ wr.heap.size) (Kd.R_bound HH.out.2.1) (fun j hj => Nat.ne_of_lt hj.2.2.1)) hb5)
          have HM5 := Lib.hid (HH.out.2.2.below hb5)
          have hgy : w9.heap.size < wr.heap.size := blk_lt HH.out.1
          have hc5 := HC.out _ hb5
          obtain ⟨p3, r0, r1, r2⟩ := hc5
          have x1 := blk_cell HX5.out 1
          simp only [List.getElem?_toArray, List.getElem?_cons_succ, List.getElem?_cons_zero] at x1
          have y3 := blk_cell HY.out 3
          simp only [List.getElem?_toArray, List.getElem?_cons_succ, List.getElem?_cons_zero] at y3
          have f3 := blk_frozen HY.out 3
          have hwm : m ≠ wr.heap.size := Nat.ne_of_lt (blk_lt HH.out.2.2.1)
          have hX0 := HH.out.2.2.2.2.1.size
          have HB5 := Lib.hid (HBB.out.trans (hb5.mono HBB.out.size))
          clear HC HW5 HH hb5 HBB
          obtain ⟨XS, hXS⟩ : ∃ XS, XS = (rs.take k).map (relocR isA LSn) := ⟨_, rfl⟩
          rw [← hXS] at HR5 HSK
          have hXL : XS.length ≤ 6 := by rw [hXS, List.length_map, List.length_take]; omega
          clear hXS
          go_upto_if 133 with (fail)
          go_cut [] from 91 to 148 (fun wx => ∃ j3 : Int, Hid (j3 = (if isA = true then IntKind.u64.wrap (bits .and .i64 x.f2 65535) else 0)) ∧ Hid (wx.heap[wr.heap.size]? = some (.cells #[.int .u64 i0, .int .u64 i1, .int .u64 i2, .int .u64 j3] 74 (0, 0)) ∧ wx.heap[w9.heap.size]? = some (.cells #[.string ⟨#[46, 114, 101, 108]⟩, .int .u64 (ty), .int .u64 0, .int .u64 0, .int .u64 table, .int .u64 target, .int .u64 0, .int .u64 (en), .int .u64 0, .string ⟨#[]⟩, .slice none 0 0, xr, .slice none 0 0] 54 (0, 0)) ∧ Kd.R k74 74 wx w9.heap.size (fun j => j ≠ wr.heap.size) xr XS ∧ MSt w wx m wide big #[.int .i64 fl, .slice a1 n1 c1, .slice a2 n2 c2, .slice (some ad) rs.length c3, .slice a4 n4 c4] #[.bool false, .bool false, .int .u8 0, .int .u8 0, .int .u64 0, .int .u64 0, .int .u64 0, .int .u64 0, .int .u64 0, .slice none 0 0, .slice none 0 0] (fun k => k < w9.heap.size) (.slice A8 L2.length c8) (L2) (.slice none 0 0)) ∧ Hid (Below w9.heap.size w9 wx))
          case first =>
            cases isA
            · go_wp2
              go_meet
              case rel => exact ⟨_, Lib.hid rfl, Lib.hid ⟨HY.out, HX5.out, HR5.out, HM5.out⟩, HB5⟩
            · go_wp2
              go_meet
              case rel => exact ⟨_, Lib.hid rfl, Lib.hid ⟨blk_put HY.out 3 _ rfl, blk_far HX5.out (Nat.ne_of_lt hgy) _, Kd.R_far HR5.out (fun j hj => hj) _, HM5.out.far (fun k hk => Nat.ne_of_lt (Nat.lt_trans hk hgy)) hwm (by omega) 3 _⟩, Lib.hid (HB5.out.setCell (Nat.le_of_lt hgy) _)⟩
          case rest =>
            clear p3 r0 r1 r2 x1 y3 f3 HY HX5 HR5 HM5
            obtain ⟨j3, HJ, HG, HB6⟩ := hcut
            obtain ⟨AX, cX, rfl⟩ := Kd.R_slice HG.out.2.2.1
            have y0 := blk_cell HG.out.1 0
            have y1 := blk_cell HG.out.1 1
            have y2 := blk_cell HG.out.1 2
            have y3 := blk_cell HG.out.1 3
            have x11 := blk_cell HG.out.2.1 11
            simp only [List.getElem?_toArray, List.getElem?_cons_succ, List.getElem?_cons_zero] at y0 y1 y2 y3 x11
            have hyl := Lib.hid (blk_lt HG.out.1)
            go_wp2_with (first | (at_builtin; refine Kd.R_append k74 (w0 := w9) w9.heap.size rfl (.tmp 144) (.tmp 146) 51 74 _ _ rfl Tryz.underlying51 infoRel rfl (by decide) (by omega) (.slice AX XS.length cX) XS (⟨i0, i1, i2, j3⟩ : S74) _ (fun j => j ≠ wr.heap.size) (fun _ => False) rfl rfl (k74_mkM _ _ _ _) (fun _ h => h.elim) (fun j hj => (Nat.ne_of_lt (Nat.lt_of_lt_of_le hyl.out hj)).symm) HG.out.2.2.1 HB6.out HB6.out.size (by omega) ?_))
            intro v6 w6 hR6 hB6 hG6 hat6
            obtain ⟨A6, c6, rfl⟩ := Kd.R_slice hR6
            have hx6 := blk_grown HG.out.2.1 hG6 (Kd.R_ne HG.out.2.2.1 HG.out.2.1 (by decide))
            have q11 := blk_cell hx6 11
            simp only [List.getElem?_toArray, List.getElem?_cons_succ, List.getElem?_cons_zero] at q11
            have f11 := blk_frozen hx6 11
            have HS6 := Lib.hid (And.intro (blk_put hx6 11 (.slice A6 (XS ++ [(⟨i0, i1, i2, j3⟩ : S74)]).length c6) rfl) (And.intro (Kd.R_mono (ok' := fun _ => True) (Kd.R_set hR6 hx6 (by decide) 11 (.slice A6 (XS ++ [(⟨i0, i1, i2, j3⟩ : S74)]).length c6)) (fun _ _ => trivial)) ((HG.out.2.2.2.grown HG.out.2.2.1 hG6 (fun j hj he => Nat.not_lt_of_le (Kd.R_base HG.out.2.2.1 j he.symm) hj) (HMB.out.trans (hB6.mono HMB.out.size))).far (fun j hj => Nat.ne_of_lt hj) hg2 hg1 11 (.slice A6 (XS ++ [(⟨i0, i1, i2, j3⟩ : S74)]).length c6))))
            have HB7 := Lib.hid (hB6.setCell (p := ⟨w9.heap.size, 11, none⟩) (Nat.le_refl _) (.slice A6 (XS ++ [(⟨i0, i1, i2, j3⟩ : S74)]).length c6))
            clear hx6 hR6 hB6 hG6 hat6 y0 y1 y2 y3 x11
            have hrel2 : relocR isA LSn x = (⟨i0, i1, i2, j3⟩ : S74) := by
              unfold relocR
              rw [← HI.out.1, ← HI.out.2.1, ← HI.out.2.2, ← HJ.out]
            have HRL := Lib.hid hrel2
            clear hrel2
            go_wp2
            go_roundw
            case rel =>
              refine ⟨k + 1, .slice A6 (XS ++ [(⟨i0, i1, i2, j3⟩ : S74)]).length c6, by omega, by omega, by go_num, Lib.hid ⟨?_, ?_, ?_⟩, Lib.hid ?_⟩
              · simpa using HS6.out.1
              · rw [HSK.out, HRL.out]; simpa using HS6.out.2.1
              · simpa using HS6.out.2.2
              · simpa using HB7.out
            case measure => simp [intOf]; omega
      · skip
        have hT : (rs.take k).map (relocR isA LSn) = (rs.take 6).map (relocR isA LSn) := by
          by_cases h : k = 6
          · rw [h]
          · rw [List.take_of_length_le (by omega), List.take_of_length_le (by omega)]
        rw [hT] at HH
        clear hT
        obtain ⟨RS, hRS⟩ : ∃ RS, RS = (rs.take 6).map (relocR isA LSn) := ⟨_, rfl⟩
        rw [← hRS] at HH
        have HRS := Lib.hid hRS
        clear hRS
        obtain ⟨AX, cX, rfl⟩ := Kd.R_slice HH.out.2.1
        have HX := HH.out.1
        have x0 := blk_cell HX 0
        have x1 := blk_cell HX 1
        have x2 := blk_cell HX 2
        have x3 := blk_cell HX 3
        have x4 := blk_cell HX 4
        have x5 := blk_cell HX 5
        have x6 := blk_cell HX 6
        have x7 := blk_cell HX 7
        have x8 := blk_cell HX 8
        have x9 := blk_cell HX 9
        have x10 := blk_cell HX 10
        have x11 := blk_cell HX 11
        have x12 := blk_cell HX 12
        have q9 := blk_cell HH.out.2.2.1 9
        simp only [List.getElem?_toArray, List.getElem?_cons_succ, List.getElem?_cons_zero] at x0 x1 x2 x3 x4 x5 x6 x7 x8 x9 x10 x11 x12 q9
        clear HX HBB
        by_cases h : k < rs.length
        · have h2 : ¬ k < 6 := by omega
          go_wp2_with (first | (at_builtin; refine Kd.R_append k54 (w0 := w) w.heap.size rfl (.tmp 150) (.tmp 152) 28 54 _ _ rfl Tryz.underlying28 info54 rfl (by decide) (by omega) (.slice A8 L2.length c8) L2 (⟨⟨#[46, 114, 101, 108]⟩, ty, 0, 0, table, target, 0, en, 0, ⟨#[]⟩, [], RS, []⟩ : S54) _ (fun _ => True) (fun j => True ∧ some j ≠ (Value.slice A8 L2.length c8).ownBlock) rfl rfl (k54_mkM _ _ _ _ (Kd.R_nil _ _ _ _ _) (Kd.R_apart' (Kd.R_lower HH.out.2.1 HMB.out.size) (Kd.R_typed HH.out.2.2.2.1) (by decide)) (Kd.R_nil _ _ _ _ _)) (fun j h => ⟨trivial, h.2⟩) (fun _ _ => trivial) (Kd.R_mono HH.out.2.2.2.1 (fun _ _ => trivial)) HH.out.2.2.2.2.1 HH.out.2.2.2.2.1.size (by omega) ?_))
          intro v6 w6 hR6 hB6 hG6 hat6
          obtain ⟨A6, c6, rfl⟩ := Kd.R_slice hR6
          have hm6 := blk_grown HH.out.2.2.1 hG6 (Kd.R_ne HH.out.2.2.2.1 HH.out.2.2.1 (by decide))
          have q96 := blk_cell hm6 9
          simp only [List.getElem?_toArray, List.getElem?_cons_succ, List.getElem?_cons_zero] at q96
          have f96 := blk_frozen hm6 9
          have HS6 := Lib.hid (MSt.put HH.out.2.2 hG6 hR6 hB6)
          have hrs : (⟨⟨#[46, 114, 101, 108]⟩, ty, 0, 0, table, target, 0, en, 0, ⟨#[]⟩, [], RS, []⟩ : S54) = relS (flagB fl 8) table target z2 z3 LSn rs := by
            unfold relS
            rw [HRS.out, HTE.out.1, HTE.out.2, HA.out]; rfl
          have HRE := Lib.hid hrs
          clear hm6 hR6 hB6 hG6 hat6 hrs
          go_wp2
          refine HK.out _ _ _ _ _ _ _ _ _ _ _ _ _ _ _ _ _ _ _ _ _ _ _ _ _ _ _ _ _ _ _ _ _ _ _ _ _ _ _ _ _ _ _ _ _ _ _ _ _ _ _ _ _ _ _ _ _ _ _ _ _ _ _ _ _ _ _ _ _ _ _ _ _ _ _ _ _ _ (.slice A6 (L2.length + 1) c6) _ ?_
          have h := HS6.out
          rw [HRE.out] at h
          simpa using h
        · go_wp2_with (first | (at_builtin; refine Kd.R_append k54 (w0 := w) w.heap.size rfl (.tmp 150) (.tmp 152) 28 54 _ _ rfl Tryz.underlying28 info54 rfl (by decide) (by omega) (.slice A8 L2.length c8) L2 (⟨⟨#[46, 114, 101, 108]⟩, ty, 0, 0, table, target, 0, en, 0, ⟨#[]⟩, [], RS, []⟩ : S54) _ (fun _ => True) (fun j => True ∧ some j ≠ (Value.slice A8 L2.length c8).ownBlock) rfl rfl (k54_mkM _ _ _ _ (Kd.R_nil _ _ _ _ _) (Kd.R_apart' (Kd.R_lower HH.out.2.1 HMB.out.size) (Kd.R_typed HH.out.2.2.2.1) (by decide)) (Kd.R_nil _ _ _ _ _)) (fun j h => ⟨trivial, h.2⟩) (fun _ _ => trivial) (Kd.R_mono HH.out.2.2.2.1 (fun _ _ => trivial)) HH.out.2.2.2.2.1 HH.out.2.2.2.2.1.size (by omega) ?_))
          intro v6 w6 hR6 hB6 hG6 hat6
          obtain ⟨A6, c6, rfl⟩ := Kd.R_slice hR6
          have hm6 := blk_grown HH.out.2.2.1 hG6 (Kd.R_ne HH.out.2.2.2.1 HH.out.2.2.1 (by decide))
          have q96 := blk_cell hm6 9
          simp only [List.getElem?_toArray, List.getElem?_cons_succ, List.getElem?_cons_zero] at q96
          have f96 := blk_frozen hm6 9
          have HS6 := Lib.hid (MSt.put HH.out.2.2 hG6 hR6 hB6)
          have hrs : (⟨⟨#[46, 114, 101, 108]⟩, ty, 0, 0, table, target, 0, en, 0, ⟨#[]⟩, [], RS, []⟩ : S54) = relS (flagB fl 8) table target z2 z3 LSn rs := by
            unfold relS
            rw [HRS.out, HTE.out.1, HTE.out.2, HA.out]; rfl
          have HRE := Lib.hid hrs
          clear hm6 hR6 hB6 hG6 hat6 hrs
          go_wp2
          refine HK.out _ _ _ _ _ _ _ _ _ _ _ _ _ _ _ _ _ _ _ _ _ _ _ _ _ _ _ _ _ _ _ _ _ _ _ _ _ _ _ _ _ _ _ _ _ _ _ _ _ _ _ _ _ _ _ _ _ _ _ _ _ _ _ _ _ _ _ _ _ _ _ _ _ _ _ _ _ _ (.slice A6 (L2.length + 1) c6) _ ?_
          have h := HS6.out
          rw [HRE.out] at h
          simpa using h
end Go.Proofs.YtkbamfiokhmpjaaGreatDoor

/- Contracts over this translation, plans' models: made's group and indices. -/
namespace Go.Proofs.YtkbamfiokhmpjaaGreatDoor
set_option linter.unusedVariables false
set_option linter.unusedSimpArgs false
open Go.RowKit Go.Proofs.YtkbamfiokhmpjaaGreatDoorX.Kd Go.Proofs.YtkbamfiokhmpjaaGreatDoorW.PrintWords Go.Proofs.YtkbamfiokhmpjaaGreatDoorW.PrintLast Go.Proofs.YtkbamfiokhmpjaaGreatDoorW.PrintMore
attribute [local go_sem] max2_int min2_int max_two min_two

theorem R_two (w : World) (base e : Nat) (hb : base ≤ w.heap.size) (x y : Int) : (Kd.int .u64).R e (w.alloc (.cells #[.int .u64 x, .int .u64 y] e)) base (fun k => k = w.heap.size) (.slice (some ⟨w.heap.size, 0, none⟩) 2 2) [x, y] := by
  refine ⟨fun k hk => by simpa [Value.ownBlock] using hk.symm, [.int .u64 x, .int .u64 y], ?_, ?_⟩
  · exact World.ownsRow_lit (base := base) (e := e) (size := 1) _ _ 2 hb (by unfold maxLen; omega) rfl
  · exact Reps.front rfl rfl (Reps.front rfl rfl (Reps.none _ _) rfl) rfl
/-- The end of the block of made's symbols. -/
noncomputable def madeGrp : Code := sndC (sndC (sndC (sndC (sndC (sndC (thenC (sndC (fstC (sndC (sndC (sndC (sndC (sndC madeCode)))))))))))))
set_option maxRecDepth 100000 in
set_option maxHeartbeats 16000000 in
theorem made_grp (fl : Int) (n1 n2 n3 n4 : Nat) (a1 a2 a3 a4 A8 Al : Option Addr) (c1 c2 c3 c4 c8 cl : Nat) (w w9 : World) (m : Nat) (wide big : Bool) (L3 : List S54) (hL3 : L3.length ≤ 11) (target table : Int) (LSn : Nat) (hLS : 1 ≤ LSn ∧ LSn ≤ 17) (hm9 : MSt w w9 m wide big #[.int .i64 fl, .slice a1 n1 c1, .slice a2 n2 c2, .slice a3 n3 c3, .slice a4 n4 c4] #[.bool false, .bool false, .int .u8 0, .int .u8 0, .int .u64 0, .int .u64 0, .int .u64 0, .int .u64 0, .int .u64 0, .slice none 0 0, .slice none 0 0] (fun _ => True) (.slice A8 L3.length c8) (L3) (.slice none 0 0))
    (u0 u4 u5 u6 u7 u9 u12 u13 u14 u15 u16 u17 u18 u19 u20 u21 u22 u23 u24 u25 u26 u27 u28 u29 u30 u31 u32 u33 u34 u35 u36 u37 u38 u39 u40 u41 u42 u43 u44 u45 u46 u47 u48 u49 u50 u51 u52 u53 u54 u55 u56 u57 u58 u59 u60 u61 u62 u63 u64 u65 u66 u67 u68 u69 u70 u71 u72 u73 u74 u75 u76 u77 u78 u79 u80 u81 u82 u83 u84 u85 u86 u87 u88 u89 u90 u91 u92 u93 u94 u95 u96 u97 u98 u99 u100 u101 u102 u103 u104 u105 u106 u107 u108 u109 u110 u111 u112 u113 u114 u115 u116 u117 u118 u119 u120 u121 u122 u123 u124 u125 u126 u127 u128 u129 u130 u131 u132 u133 u134 u135 u136 u137 u138 u139 u140 u141 u142 u143 u144 u145 u146 u147 u148 u149 u150 u151 u152 u153 u154 u155 u156 u157 u158 u159 u160 u161 u162 u163 u164 u165 u166 u167 u168 u169 u170 u171 u172 u173 u174 u175 u176 u177 u178 u179 u180 u181 u182 u183 u184 u185 u186 u187 u188 u189 u190 u191 u192 u193 u194 u195 u196 u197 u198 u199 u200 u201 u202 u203 u204 u205 u206 u207 u208 u209 u210 u211 u212 u213 u214 u215 u216 u217 u218 u219 : Value) (K : Act → World → Prop) (Q' : Exit → Act → World → Prop) (hK : ∀ (s155 s156 s157 s158 s159 s160 s161 s162 s163 s164 s165 s166 s167 s168 s169 s170 s171 s172 s173 s174 s175 s176 s177 s178 s179 s180 s181 s182 : Value) (v : Value) (wF : World), MSt w wF m wide big #[.int .i64 fl, .slice a1 n1 c1, .slice a2 n2 c2, .slice a3 n3 c3, .slice a4 n4 c4] #[.bool false, .bool false, .int .u8 0, .int .u8 0, .int .u64 0, .int .u64 0, .int .u64 0, .int .u64 0, .int .u64 0, .slice none 0 0, .slice none 0 0] (fun _ => True) (v) (L3 ++ (if flagB fl 16 = true then [groupS table LSn target] else []) ++ (if flagB fl 32 = true then [indicesS table] else [])) (.slice none 0 0) → K ⟨#[u0, .pointer (some ⟨w.heap.size, 0, none⟩), .pointer (some ⟨w.heap.size + 1, 0, none⟩), .pointer (some ⟨m, 0, none⟩), u4, u5, u6, u7, .int .u64 target, u9, .int .u64 table, .slice Al LSn cl, u12, u13, u14, u15, u16, u17, u18, u19, u20, u21, u22, u23, u24, u25, u26, u27, u28, u29, u30, u31, u32, u33, u34, u35, u36, u37, u38, u39, u40, u41, u42, u43, u44, u45, u46, u47, u48, u49, u50, u51, u52, u53, u54, u55, u56, u57, u58, u59, u60, u61, u62, u63, u64, u65, u66, u67, u68, u69, u70, u71, u72, u73, u74, u75, u76, u77, u78, u79, u80, u81, u82, u83, u84, u85, u86, u87, u88, u89, u90, u91, u92, u93, u94, u95, u96, u97, u98, u99, u100, u101, u102, u103, u104, u105, u106, u107, u108, u109, u110, u111, u112, u113, u114, u115, u116, u117, u118, u119, u120, u121, u122, u123, u124, u125, u126, u127, u128, u129, u130, u131, u132, u133, u134, u135, u136, u137, u138, u139, u140, u141, u142, u143, u144, u145, u146, u147, u148, u149, u150, u151, u152, u153, u154, s155, s156, s157, s158, s159, s160, s161, s162, s163, s164, s165, s166, s167, s168, s169, s170, s171, s172, s173, s174, s175, s176, s177, s178, s179, s180, s181, s182, u183, u184, u185, u186, u187, u188, u189, u190, u191, u192, u193, u194, u195, u196, u197, u198, u199, u200, u201, u202, u203, u204, u205, u206, u207, u208, u209, u210, u211, u212, u213, u214, u215, u216, u217, u218, u219], []⟩ wF) :
    Code.wp Tryz.prog madeGrp (Exit.then K Q') ⟨#[u0, .pointer (some ⟨w.heap.size, 0, none⟩), .pointer (some ⟨w.heap.size + 1, 0, none⟩), .pointer (some ⟨m, 0, none⟩), u4, u5, u6, u7, .int .u64 target, u9, .int .u64 table, .slice Al LSn cl, u12, u13, u14, u15, u16, u17, u18, u19, u20, u21, u22, u23, u24, u25, u26, u27, u28, u29, u30, u31, u32, u33, u34, u35, u36, u37, u38, u39, u40, u41, u42, u43, u44, u45, u46, u47, u48, u49, u50, u51, u52, u53, u54, u55, u56, u57, u58, u59, u60, u61, u62, u63, u64, u65, u66, u67, u68, u69, u70, u71, u72, u73, u74, u75, u76, u77, u78, u79, u80, u81, u82, u83, u84, u85, u86, u87, u88, u89, u90, u91, u92, u93, u94, u95, u96, u97, u98, u99, u100, u101, u102, u103, u104, u105, u106, u107, u108, u109, u110, u111, u112, u113, u114, u115, u116, u117, u118, u119, u120, u121, u122, u123, u124, u125, u126, u127, u128, u129, u130, u131, u132, u133, u134, u135, u136, u137, u138, u139, u140, u141, u142, u143, u144, u145, u146, u147, u148, u149, u150, u151, u152, u153, u154, u155, u156, u157, u158, u159, u160, u161, u162, u163, u164, u165, u166, u167, u168, u169, u170, u171, u172, u173, u174, u175, u176, u177, u178, u179, u180, u181, u182, u183, u184, u185, u186, u187, u188, u189, u190, u191, u192, u193, u194, u195, u196, u197, u198, u199, u200, u201, u202, u203, u204, u205, u206, u207, u208, u209, u210, u211, u212, u213, u214, u215, u216, u217, u218, u219], []⟩ w9 := by
  conv => arg 2; whnf
  have HM9 := Lib.hid hm9
  have HK := Lib.hid hK
  clear hm9 hK
  obtain ⟨isG, hisG⟩ : ∃ isG, isG = flagB fl 16 := ⟨_, rfl⟩
  have HG := Lib.hid hisG
  have eG : (bits .and .i64 fl 16 == 16) = isG := hisG.symm
  clear hisG
  obtain ⟨isI, hisI⟩ : ∃ isI, isI = flagB fl 32 := ⟨_, rfl⟩
  have HI := Lib.hid hisI
  have eI : (bits .and .i64 fl 32 == 32) = isI := hisI.symm
  clear hisI
  have p0 := blk_cell HM9.out.2.2.2.1 0
  have q9 := blk_cell HM9.out.1 9
  simp only [List.getElem?_toArray, List.getElem?_cons_succ, List.getElem?_cons_zero] at p0 q9
  have b1 : IntKind.i64.wrap ((LSn : Int) - 1) = (LSn : Int) - 1 := by rw [IntKind.wrap_i64]; omega
  have b2 : IntKind.u64.wrap ((LSn : Int) - 1) = (LSn : Int) - 1 := by rw [IntKind.wrap_u64]; omega
  go_upto_if 158 with (fail)
  go_cut [] from 155 to 171 (fun wx => ∃ v : Value, Hid (MSt w wx m wide big #[.int .i64 fl, .slice a1 n1 c1, .slice a2 n2 c2, .slice a3 n3 c3, .slice a4 n4 c4] #[.bool false, .bool false, .int .u8 0, .int .u8 0, .int .u64 0, .int .u64 0, .int .u64 0, .int .u64 0, .int .u64 0, .slice none 0 0, .slice none 0 0] (fun _ => True) (v) (L3 ++ (if isG = true then [groupS table LSn target] else [])) (.slice none 0 0)))
  case first =>
    cases isG
    · go_wp2
      go_meet
      case rel => exact ⟨_, Lib.hid (by simpa using HM9.out)⟩
    · go_wp2_with (first | (at_builtin; refine Kd.R_append k54 (w0 := w) w.heap.size rfl (.tmp 160) (.tmp 169) 28 54 _ _ rfl Tryz.underlying28 info54 rfl (by decide) (by omega) (.slice A8 L3.length c8) L3 (groupS table LSn target) _ (fun _ => True) (fun k => k = w9.heap.size) rfl (by first | rfl | (rw [World.size_alloc]; rfl) | (simp; done)) (k54_mkM _ _ _ _ (Kd.R_nil _ _ _ _ _) (Kd.R_nil _ _ _ _ _) (R_two w9 w.heap.size 27 HM9.out.2.2.1.size 1 target)) (fun k h => ⟨trivial, fun he => Nat.lt_irrefl w9.heap.size (by rw [h] at he; exact Kd.R_lt HM9.out.2.1 _ he.symm)⟩) (fun _ _ => trivial) ((HM9.out.below (below_alloc (Below.refl _ _) (.cells #[.int .u64 1, .int .u64 target] 27))).2.1) ((HM9.out.below (below_alloc (Below.refl _ _) (.cells #[.int .u64 1, .int .u64 target] 27))).2.2.1) (((HM9.out.below (below_alloc (Below.refl _ _) (.cells #[.int .u64 1, .int .u64 target] 27))).2.2.1).size) (by omega) ?_))
      intro v6 w6 hR6 hB6 hG6 hat6
      obtain ⟨A6, c6, rfl⟩ := Kd.R_slice hR6
      have hMM := (HM9.out.below (below_alloc (Below.refl _ _) (.cells #[.int .u64 1, .int .u64 target] 27)))
      have hm6 := blk_grown hMM.1 hG6 (Kd.R_ne hMM.2.1 hMM.1 (by decide))
      have q96 := blk_cell hm6 9
      have z96 := blk_frozen hm6 9
      simp only [List.getElem?_toArray, List.getElem?_cons_succ, List.getElem?_cons_zero] at q96
      have HP6 := Lib.hid (MSt.put hMM hG6 hR6 hB6)
      clear hMM hm6 hR6 hB6 hG6 hat6
      go_wp2
      go_meet
      case rel => exact ⟨.slice A6 (L3.length + 1) c6, Lib.hid (by simpa using HP6.out)⟩
  case rest =>
    clear p0 q9 HM9 b1 b2 eG
    obtain ⟨v9, HM9⟩ := hcut
    obtain ⟨A9, c9, rfl⟩ := Kd.R_slice HM9.out.2.1
    obtain ⟨L4, hL4⟩ : ∃ L4, L4 = L3 ++ (if isG = true then [groupS table LSn target] else []) := ⟨_, rfl⟩
    rw [← hL4] at HM9
    have hn12 : L4.length ≤ 12 := by rw [hL4, List.length_append]; split <;> simp <;> omega
    have HL4 := Lib.hid hL4
    clear hL4
    have p0 := blk_cell HM9.out.2.2.2.1 0
    have q9 := blk_cell HM9.out.1 9
    simp only [List.getElem?_toArray, List.getElem?_cons_succ, List.getElem?_cons_zero] at p0 q9
    have HFI := Lib.hid (show L3 ++ (if flagB fl 16 = true then [groupS table LSn target] else []) ++ (if flagB fl 32 = true then [indicesS table] else []) = L4 ++ (if isI = true then [indicesS table] else []) by rw [HL4.out, HG.out, HI.out])
    rw [HFI.out] at HK
    clear HFI
    go_upto_if 175 with (fail)
    cases isI
    · go_wp2
      refine HK.out _ _ _ _ _ _ _ _ _ _ _ _ _ _ _ _ _ _ _ _ _ _ _ _ _ _ _ _ (.slice A9 L4.length c9) _ ?_
      simpa using HM9.out
    · go_wp2_with (first | (at_builtin; refine Kd.R_append k54 (w0 := w) w.heap.size rfl (.tmp 177) (.tmp 180) 28 54 _ _ rfl Tryz.underlying28 info54 rfl (by decide) (by omega) (.slice A9 L4.length c9) L4 (indicesS table) _ (fun _ => True) (fun _ => False) rfl (by first | rfl | (rw [World.size_alloc]; rfl) | (simp; done)) (k54_mkM _ _ _ _ (Kd.R_nil _ _ _ _ _) (Kd.R_nil _ _ _ _ _) (Kd.R_nil _ _ _ _ _)) (fun _ h => h.elim) (fun _ _ => trivial) (HM9.out.2.1) (HM9.out.2.2.1) ((HM9.out.2.2.1).size) (by omega) ?_))
      intro v7 w7 hR7 hB7 hG7 hat7
      obtain ⟨A7, c7, rfl⟩ := Kd.R_slice hR7
      have hMM := HM9.out
      have hm7 := blk_grown hMM.1 hG7 (Kd.R_ne hMM.2.1 hMM.1 (by decide))
      have q97 := blk_cell hm7 9
      have z97 := blk_frozen hm7 9
      simp only [List.getElem?_toArray, List.getElem?_cons_succ, List.getElem?_cons_zero] at q97
      have HP7 := Lib.hid (MSt.put hMM hG7 hR7 hB7)
      clear hMM hm7 hR7 hB7 hG7 hat7
      go_wp2
      refine HK.out _ _ _ _ _ _ _ _ _ _ _ _ _ _ _ _ _ _ _ _ _ _ _ _ _ _ _ _ (.slice A7 (L4.length + 1) c7) _ ?_
      simpa using HP7.out
end Go.Proofs.YtkbamfiokhmpjaaGreatDoor

/- Contracts over this translation, plans' models: made's block of symbols. -/
namespace Go.Proofs.YtkbamfiokhmpjaaGreatDoor
set_option linter.unusedVariables false
set_option linter.unusedSimpArgs false
open Go.RowKit Go.Proofs.YtkbamfiokhmpjaaGreatDoorX.Kd Go.Proofs.YtkbamfiokhmpjaaGreatDoorW.PrintWords Go.Proofs.YtkbamfiokhmpjaaGreatDoorW.PrintLast Go.Proofs.YtkbamfiokhmpjaaGreatDoorW.PrintMore
attribute [local go_sem] max2_int min2_int max_two min_two
/-- The block of made's symbols. -/
noncomputable def madeThen : Code := thenC (sndC (fstC (sndC (sndC (sndC (sndC (sndC madeCode)))))))
set_option maxRecDepth 100000 in
set_option maxHeartbeats 16000000 in
theorem made_then (fl : Int) (ps : List S60) (ys : List S62) (rs : List S72) (ds : List ByteArray) (hys : ∀ x ∈ ys, x.f0.size ≤ 9223372036854775807) (a1 a2 a3 a4 A9 : Option Addr) (c1 c2 c3 c4 c9 : Nat) (w w5 : World) (m : Nat) (wide big : Bool) (S0 : List S54) (hn8 : S0.length ≤ 8) (hn2 : 2 ≤ S0.length) (z1 z2 z3 : Int) (hwide : wide = flagB fl 2) (hz : sizesR wide = (z1, z2, z3)) (h2 : Kd.C k62 w a2 ys.length ys) (h3 : Kd.C k72 w a3 rs.length rs) (hm5 : MSt w w5 m wide big #[.int .i64 fl, .slice a1 ps.length c1, .slice a2 ys.length c2, .slice a3 rs.length c3, .slice a4 ds.length c4] #[.bool false, .bool false, .int .u8 0, .int .u8 0, .int .u64 0, .int .u64 0, .int .u64 0, .int .u64 0, .int .u64 0, .slice none 0 0, .slice none 0 0] (fun _ => True) (.slice A9 S0.length c9) (S0) (.slice none 0 0))
    (u9 u10 u11 u12 u13 u14 u15 u16 u17 u18 u19 u20 u21 u22 u23 u24 u25 u26 u27 u28 u29 u30 u31 u32 u33 u34 u35 u36 u37 u38 u39 u40 u41 u42 u43 u44 u45 u46 u47 u48 u49 u50 u51 u52 u53 u54 u55 u56 u57 u58 u59 u60 u61 u62 u63 u64 u65 u66 u67 u68 u69 u70 u71 u72 u73 u74 u75 u76 u77 u78 u79 u80 u81 u82 u83 u84 u85 u86 u87 u88 u89 u90 u91 u92 u93 u94 u95 u96 u97 u98 u99 u100 u101 u102 u103 u104 u105 u106 u107 u108 u109 u110 u111 u112 u113 u114 u115 u116 u117 u118 u119 u120 u121 u122 u123 u124 u125 u126 u127 u128 u129 u130 u131 u132 u133 u134 u135 u136 u137 u138 u139 u140 u141 u142 u143 u144 u145 u146 u147 u148 u149 u150 u151 u152 u153 u154 u155 u156 u157 u158 u159 u160 u161 u162 u163 u164 u165 u166 u167 u168 u169 u170 u171 u172 u173 u174 u175 u176 u177 u178 u179 u180 u181 u182 u183 u184 u185 u186 u187 u188 u189 u190 u191 u192 u193 u194 u195 u196 u197 u198 u199 u200 u201 u202 u203 u204 u205 u206 u207 u208 u209 u210 u211 u212 u213 u214 u215 u216 u217 u218 u219 : Value) (K : Act → World → Prop) (Q' : Exit → Act → World → Prop) (hK : ∀ (s9 s10 s11 s12 s13 s14 s15 s45 s46 s47 s48 s49 s50 s51 s52 s53 s54 s55 s56 s57 s58 s59 s60 s61 s62 s63 s64 s65 s66 s67 s68 s69 s70 s71 s72 s73 s74 s75 s76 s77 s78 s79 s80 s81 s82 s83 s84 s85 s86 s87 s88 s89 s90 s91 s92 s93 s94 s95 s96 s97 s98 s99 s100 s101 s102 s103 s104 s105 s106 s107 s108 s109 s110 s111 s112 s113 s114 s115 s116 s117 s118 s119 s120 s121 s122 s123 s124 s125 s126 s127 s128 s129 s130 s131 s132 s133 s134 s135 s136 s137 s138 s139 s140 s141 s142 s143 s144 s145 s146 s147 s148 s149 s150 s151 s152 s153 s154 s155 s156 s157 s158 s159 s160 s161 s162 s163 s164 s165 s166 s167 s168 s169 s170 s171 s172 s173 s174 s175 s176 s177 s178 s179 s180 s181 s182 : Value) (v : Value) (wF : World), MSt w wF m wide big #[.int .i64 fl, .slice a1 ps.length c1, .slice a2 ys.length c2, .slice a3 rs.length c3, .slice a4 ds.length c4] #[.bool false, .bool false, .int .u8 0, .int .u8 0, .int .u64 0, .int .u64 0, .int .u64 0, .int .u64 0, .int .u64 0, .slice none 0 0, .slice none 0 0] (fun _ => True) (v) (S0 ++ moreSecs fl S0.length ys rs) (.slice none 0 0) → K ⟨#[.agg #[.int .i64 fl, .slice a1 ps.length c1, .slice a2 ys.length c2, .slice a3 rs.length c3, .slice a4 ds.length c4], .pointer (some ⟨w.heap.size, 0, none⟩), .pointer (some ⟨w.heap.size + 1, 0, none⟩), .pointer (some ⟨m, 0, none⟩), .int .u64 z1, .int .u64 z2, .int .u64 z3, .int .u64 (S0.length : Int), .int .u64 ((S0.length : Int) - 1), s9, s10, s11, s12, s13, s14, s15, u16, u17, u18, u19, u20, u21, u22, u23, u24, u25, u26, u27, u28, u29, u30, u31, u32, u33, u34, u35, u36, u37, u38, u39, u40, u41, u42, u43, u44, s45, s46, s47, s48, s49, s50, s51, s52, s53, s54, s55, s56, s57, s58, s59, s60, s61, s62, s63, s64, s65, s66, s67, s68, s69, s70, s71, s72, s73, s74, s75, s76, s77, s78, s79, s80, s81, s82, s83, s84, s85, s86, s87, s88, s89, s90, s91, s92, s93, s94, s95, s96, s97, s98, s99, s100, s101, s102, s103, s104, s105, s106, s107, s108, s109, s110, s111, s112, s113, s114, s115, s116, s117, s118, s119, s120, s121, s122, s123, s124, s125, s126, s127, s128, s129, s130, s131, s132, s133, s134, s135, s136, s137, s138, s139, s140, s141, s142, s143, s144, s145, s146, s147, s148, s149, s150, s151, s152, s153, s154, s155, s156, s157, s158, s159, s160, s161, s162, s163, s164, s165, s166, s167, s168, s169, s170, s171, s172, s173, s174, s175, s176, s177, s178, s179, s180, s181, s182, u183, u184, u185, u186, u187, u188, u189, u190, u191, u192, u193, u194, u195, u196, u197, u198, u199, u200, u201, u202, u203, u204, u205, u206, u207, u208, u209, u210, u211, u212, u213, u214, u215, u216, u217, u218, u219], []⟩ wF) :
    Code.wp Tryz.prog madeThen (Exit.then K Q') ⟨#[.agg #[.int .i64 fl, .slice a1 ps.length c1, .slice a2 ys.length c2, .slice a3 rs.length c3, .slice a4 ds.length c4], .pointer (some ⟨w.heap.size, 0, none⟩), .pointer (some ⟨w.heap.size + 1, 0, none⟩), .pointer (some ⟨m, 0, none⟩), .int .u64 z1, .int .u64 z2, .int .u64 z3, .int .u64 (S0.length : Int), .int .u64 ((S0.length : Int) - 1), u9, u10, u11, u12, u13, u14, u15, u16, u17, u18, u19, u20, u21, u22, u23, u24, u25, u26, u27, u28, u29, u30, u31, u32, u33, u34, u35, u36, u37, u38, u39, u40, u41, u42, u43, u44, u45, u46, u47, u48, u49, u50, u51, u52, u53, u54, u55, u56, u57, u58, u59, u60, u61, u62, u63, u64, u65, u66, u67, u68, u69, u70, u71, u72, u73, u74, u75, u76, u77, u78, u79, u80, u81, u82, u83, u84, u85, u86, u87, u88, u89, u90, u91, u92, u93, u94, u95, u96, u97, u98, u99, u100, u101, u102, u103, u104, u105, u106, u107, u108, u109, u110, u111, u112, u113, u114, u115, u116, u117, u118, u119, u120, u121, u122, u123, u124, u125, u126, u127, u128, u129, u130, u131, u132, u133, u134, u135, u136, u137, u138, u139, u140, u141, u142, u143, u144, u145, u146, u147, u148, u149, u150, u151, u152, u153, u154, u155, u156, u157, u158, u159, u160, u161, u162, u163, u164, u165, u166, u167, u168, u169, u170, u171, u172, u173, u174, u175, u176, u177, u178, u179, u180, u181, u182, u183, u184, u185, u186, u187, u188, u189, u190, u191, u192, u193, u194, u195, u196, u197, u198, u199, u200, u201, u202, u203, u204, u205, u206, u207, u208, u209, u210, u211, u212, u213, u214, u215, u216, u217, u218, u219], []⟩ w5 := by
  conv => arg 2; whnf
  have HM5 := Lib.hid hm5
  have HK := Lib.hid hK
  have H2 := Lib.hid h2
  have H3 := Lib.hid h3
  have HWD := Lib.hid hwide
  have HZ := Lib.hid hz
  clear hm5 hK h2 h3 hwide hz
  have p0 := blk_cell HM5.out.2.2.2.1 0
  have q9 := blk_cell HM5.out.1 9
  simp only [List.getElem?_toArray, List.getElem?_cons_succ, List.getElem?_cons_zero] at q9
  simp only [List.getElem?_toArray, List.getElem?_cons_succ, List.getElem?_cons_zero] at p0
  obtain ⟨own, hown⟩ : ∃ own, own = (bits .and .i64 fl 4 == 0) := ⟨_, rfl⟩
  have HOWN := Lib.hid hown
  have eo : (bits .and .i64 fl 4 == 0) = own := hown.symm
  clear hown
  have hS168 : (S0.length + 1) * 168 ≤ 140737488355328 := by omega
  go_upto_if 48 with (fail)
  go_cut [9] from 45 to 54 (fun s9 wx => ∃ (v : Value) (link : Int), s9 = .int .u64 link ∧ Hid (link = (if own = true then (S0.length : Int) else 1)) ∧ Hid (MSt w wx m wide big #[.int .i64 fl, .slice a1 ps.length c1, .slice a2 ys.length c2, .slice a3 rs.length c3, .slice a4 ds.length c4] #[.bool false, .bool false, .int .u8 0, .int .u8 0, .int .u64 0, .int .u64 0, .int .u64 0, .int .u64 0, .int .u64 0, .slice none 0 0, .slice none 0 0] (fun _ => True) (v) (S0 ++ (if own = true then [strtabS] else [])) (.slice none 0 0)))
  case first =>
    cases own
    · go_wp2
      go_meet
      case rel => exact ⟨_, _, rfl, Lib.hid rfl, Lib.hid (by simpa using HM5.out)⟩
    · go_wp2_with (first | (at_builtin; refine Kd.R_append k54 (w0 := w) w.heap.size rfl (.tmp 50) (.tmp 52) 28 54 _ _ rfl Tryz.underlying28 info54 rfl (by decide) (by omega) (.slice A9 S0.length c9) S0 (strtabS) _ (fun _ => True) (fun _ => False) rfl (by first | rfl | (simp; done)) (k54_mkM _ _ _ _ (Kd.R_nil _ _ _ _ _) (Kd.R_nil _ _ _ _ _) (Kd.R_nil _ _ _ _ _)) (fun _ h => h.elim) (fun _ _ => trivial) HM5.out.2.1 HM5.out.2.2.1 HM5.out.2.2.1.size (by omega) ?_))
      intro v6 w6 hR6 hB6 hG6 hat6
      obtain ⟨A6, c6, rfl⟩ := Kd.R_slice hR6
      have hm6 := blk_grown HM5.out.1 hG6 (Kd.R_ne HM5.out.2.1 HM5.out.1 (by decide))
      have q96 := blk_cell hm6 9
      have z96 := blk_frozen hm6 9
      simp only [List.getElem?_toArray, List.getElem?_cons_succ, List.getElem?_cons_zero] at q96
      have HP6 := Lib.hid (MSt.put HM5.out hG6 hR6 hB6)
      clear hm6 hR6 hB6 hG6 hat6
      go_wp2
      go_meet
      case rel => exact ⟨_, _, rfl, Lib.hid rfl, Lib.hid (by simpa using HP6.out)⟩
  case rest =>
    obtain ⟨v6, link, rfl, HLK, HM6⟩ := hcut
    clear q9 p0 HM5 hS168
    obtain ⟨L1, hL1⟩ : ∃ L1, L1 = S0 ++ (if own = true then [strtabS] else []) := ⟨_, rfl⟩
    rw [← hL1] at HM6
    have hn9 : L1.length ≤ 9 ∧ L1.length = S0.length + (if own = true then 1 else 0) := by rw [hL1, List.length_append]; split <;> simp <;> omega
    have HL1 := Lib.hid hL1
    have HN9 := Lib.hid hn9.2
    have hn99 := hn9.1
    clear hL1 hn9
    obtain ⟨A6, c6, rfl⟩ := Kd.R_slice HM6.out.2.1
    have hwT : IntKind.u64.wrap (L1.length : Int) = (L1.length : Int) := by rw [IntKind.wrap_u64]; omega
    have q9 := blk_cell HM6.out.1 9
    have p0 := blk_cell HM6.out.2.2.2.1 0
    have p1 := blk_cell HM6.out.2.2.2.1 1
    have p2 := blk_cell HM6.out.2.2.2.1 2
    have p3 := blk_cell HM6.out.2.2.2.1 3
    have p4 := blk_cell HM6.out.2.2.2.1 4
    simp only [List.getElem?_toArray, List.getElem?_cons_succ, List.getElem?_cons_zero] at q9 p0 p1 p2 p3 p4
    obtain ⟨LS, hLS⟩ : ∃ LS, LS = symbolsR ys (S0.length : Int) := ⟨_, rfl⟩
    have hLS18 : 1 ≤ LS.length ∧ LS.length ≤ 17 := by
      have h1 : ∀ b k, (symsK ys (S0.length : Int) b k).length ≤ k := fun b k => by
        unfold symsK
        rw [List.length_map]
        exact Nat.le_trans (List.length_filter_le _ _) (by rw [List.length_take]; omega)
      have h2 := h1 0 8
      have h3 := h1 1 8
      rw [hLS]; unfold symbolsR
      rw [List.length_append, List.length_append, List.length_singleton]
      omega
    obtain ⟨loc, hloc⟩ : ∃ loc : Int, loc = ((locB ys (S0.length : Int) 2 : Nat) : Int) := ⟨_, rfl⟩
    have HSY := Lib.hid (fun W (hb : Below w.heap.size w W) => by have h := symbols_any fl ys (S0.length : Int) ⟨by omega, by omega⟩ hys a2 c2 (.slice a1 ps.length c1) (.slice a3 rs.length c3) (.slice a4 ds.length c4) W (Kd.C_below H2.out hb); rw [← hLS, ← hloc] at h; exact h)
    have HLS := Lib.hid hLS
    have HLOC := Lib.hid hloc
    clear hLS hloc
    have hl17 := hLS18.2
    have hl1 := hLS18.1
    clear hLS18
    have hS168 : (L1.length + 1) * 168 ≤ 140737488355328 := by omega
    go_wp2_with (first | (go_at_call 12; refine (HSY.out _ HM6.out.2.2.1).mono ?_; rintro e w7 ⟨vl, rfl, hRl, hBl⟩; obtain ⟨Al, cl, rfl⟩ := Kd.R_slice hRl; have HM7 := Lib.hid (HM6.out.below hBl); have HRl := Lib.hid (Kd.R_lower hRl HM6.out.2.2.1.size); clear hRl hBl; have q97 := blk_cell HM7.out.1 9; simp only [List.getElem?_toArray, List.getElem?_cons_succ, List.getElem?_cons_zero] at q97) | (at_builtin; refine Kd.R_append k54 (w0 := w) w.heap.size rfl (.tmp 67) (.tmp 73) 28 54 _ _ rfl Tryz.underlying28 info54 rfl (by decide) (by omega) (.slice A6 L1.length c6) L1 (symtabS link loc z1 LS) _ (fun _ => True) (fun k => True ∧ some k ≠ (Value.slice A6 L1.length c6).ownBlock) rfl (by first | rfl | (simp; done)) (k54_mkM _ _ _ _ (Kd.R_apart' HRl.out (Kd.R_typed HM7.out.2.1) (by decide)) (Kd.R_nil _ _ _ _ _) (Kd.R_nil _ _ _ _ _)) (fun k h => ⟨trivial, h.2⟩) (fun _ _ => trivial) HM7.out.2.1 HM7.out.2.2.1 HM7.out.2.2.1.size (by omega) ?_))
    intro v8 w8 hR8 hB8 hG8 hat8
    obtain ⟨A8, c8, rfl⟩ := Kd.R_slice hR8
    have hm8 := blk_grown HM7.out.1 hG8 (Kd.R_ne HM7.out.2.1 HM7.out.1 (by decide))
    have q98 := blk_cell hm8 9
    have z98 := blk_frozen hm8 9
    simp only [List.getElem?_toArray, List.getElem?_cons_succ, List.getElem?_cons_zero] at q98
    have HP8 := Lib.hid (MSt.put HM7.out hG8 hR8 hB8)
    clear hm8 hR8 hB8 hG8 hat8
    obtain ⟨L2, hL2⟩ : ∃ L2, L2 = L1 ++ [symtabS link loc z1 LS] := ⟨_, rfl⟩
    rw [← hL2] at HP8
    have hn10 : L2.length ≤ 10 := by rw [hL2, List.length_append, List.length_singleton]; omega
    rw [← hL2]
    have HL2 := Lib.hid hL2
    clear hL2
    have p38 := blk_cell HP8.out.2.2.2.1 3
    simp only [List.getElem?_toArray, List.getElem?_cons_succ, List.getElem?_cons_zero] at p38
    clear HM6 HSY q97 p0 p1 p2 p3 p4
    go_upto_if 79 with (fail)
    obtain ⟨w9, hw9⟩ : ∃ w9, w9 = w8.setCell ⟨m, 9, none⟩ (.slice A8 L2.length c8) := ⟨_, rfl⟩
    rw [← hw9] at HP8 ⊢
    clear hw9 p38 q98 z98
    obtain ⟨L3, hL3⟩ : ∃ L3, L3 = L2 ++ (if 0 < rs.length then [relS (flagB fl 8) (L1.length : Int) ((S0.length : Int) - 1) z2 z3 LS.length rs] else []) := ⟨_, rfl⟩
    have hn11 : L3.length ≤ 11 := by rw [hL3, List.length_append]; split <;> simp <;> omega
    have HL3 := Lib.hid hL3
    clear hL3
    go_cut [] from 76 to 154 (fun wx => ∃ v : Value, Hid (MSt w wx m wide big #[.int .i64 fl, .slice a1 ps.length c1, .slice a2 ys.length c2, .slice a3 rs.length c3, .slice a4 ds.length c4] #[.bool false, .bool false, .int .u8 0, .int .u8 0, .int .u64 0, .int .u64 0, .int .u64 0, .int .u64 0, .int .u64 0, .slice none 0 0, .slice none 0 0] (fun _ => True) (v) (L3) (.slice none 0 0)))
    case first =>
      by_cases hr : 0 < rs.length
      · refine wp_cond_true (by first | exact congrArg Value.bool (decide_eq_true hr) | exact congrArg Value.bool (decide_eq_true (by omega : (0 : Int) < (rs.length : Int)))) ?_
        refine made_rel fl rs ps.length ys.length ds.length a1 a2 a3 a4 A8 Al c1 c2 c3 c4 c8 cl w w9 m wide big L2 hn10 z2 z3 ((S0.length : Int) - 1) (L1.length : Int) LS.length ⟨hl1, hl17⟩ H3.out HP8.out _ _ _ _ _ _ _ _ _ _ _ _ _ _ _ _ _ _ _ _ _ _ _ _ _ _ _ _ _ _ _ _ _ _ _ _ _ _ _ _ _ _ _ _ _ _ _ _ _ _ _ _ _ _ _ _ _ _ _ _ _ _ _ _ _ _ _ _ _ _ _ _ _ _ _ _ _ _ _ _ _ _ _ _ _ _ _ _ _ _ _ _ _ _ _ _ _ _ _ _ _ _ _ _ _ _ _ _ _ _ _ _ _ _ _ _ _ _ _ _ _ _ _ _ _ _ _ _ _ _ _ _ _ _ _ _ _ _ _ _ _ _ _ _ _ _ _ _ _ _ _ _ _ _ _ _ _ _ _ _ _ _ _ _ _ _ _ _ _ _ _ _ _ _ _ _ _ _ _ _ _ _ _ _ _ _ _ _ _ _ _ _ _ _ _ _ _ _ _ _ _ _ _ _ _ _ _ _ _ _ _ _ _ _ ?_
        intro s13 s14 s15 s80 s81 s82 s83 s84 s85 s86 s87 s88 s89 s90 s91 s92 s93 s94 s95 s96 s97 s98 s99 s100 s101 s102 s103 s104 s105 s106 s107 s108 s109 s110 s111 s112 s113 s114 s115 s116 s117 s118 s119 s120 s121 s122 s123 s124 s125 s126 s127 s128 s129 s130 s131 s132 s133 s134 s135 s136 s137 s138 s139 s140 s141 s142 s143 s144 s145 s146 s147 s148 s149 s150 s151 s152 s153 s154 v wF hF
        go_wp2_with fail
        go_meet
        case rel => exact ⟨v, Lib.hid (by rw [HL3.out, if_pos hr]; exact hF)⟩
      · have HNR := Lib.hid hr
        refine wp_cond_false (by first | exact congrArg Value.bool (decide_eq_false hr) | exact congrArg Value.bool (decide_eq_false (by omega : ¬ (0 : Int) < (rs.length : Int)))) ?_
        clear hr
        go_wp2_with fail
        go_meet
        case rel => exact ⟨_, Lib.hid (by rw [HL3.out, if_neg HNR.out, List.append_nil]; exact HP8.out)⟩
    case rest =>
      clear HP8
      obtain ⟨v9, HM9⟩ := hcut
      obtain ⟨A9, c9, rfl⟩ := Kd.R_slice HM9.out.2.1
      refine (by assumption : ∀ (a : Act) (w : World), Code.wp _ _ _ a w → _) _ _ ?_
      refine made_grp fl ps.length ys.length rs.length ds.length a1 a2 a3 a4 A9 Al c1 c2 c3 c4 c9 cl w _ m wide big L3 hn11 ((S0.length : Int) - 1) (L1.length : Int) LS.length ⟨hl1, hl17⟩ HM9.out _ _ _ _ _ _ _ _ _ _ _ _ _ _ _ _ _ _ _ _ _ _ _ _ _ _ _ _ _ _ _ _ _ _ _ _ _ _ _ _ _ _ _ _ _ _ _ _ _ _ _ _ _ _ _ _ _ _ _ _ _ _ _ _ _ _ _ _ _ _ _ _ _ _ _ _ _ _ _ _ _ _ _ _ _ _ _ _ _ _ _ _ _ _ _ _ _ _ _ _ _ _ _ _ _ _ _ _ _ _ _ _ _ _ _ _ _ _ _ _ _ _ _ _ _ _ _ _ _ _ _ _ _ _ _ _ _ _ _ _ _ _ _ _ _ _ _ _ _ _ _ _ _ _ _ _ _ _ _ _ _ _ _ _ _ _ _ _ _ _ _ _ _ _ _ _ _ _ _ _ _ _ _ _ _ _ _ _ _ _ _ _ _ _ _ _ _ _ _ _ _ _ _ _ _ _ _ _ _ _ _ _ _ _ _ _ ?_
      intro s155 s156 s157 s158 s159 s160 s161 s162 s163 s164 s165 s166 s167 s168 s169 s170 s171 s172 s173 s174 s175 s176 s177 s178 s179 s180 s181 s182 v wF hF
      refine HK.out _ _ _ _ _ _ _ _ _ _ _ _ _ _ _ _ _ _ _ _ _ _ _ _ _ _ _ _ _ _ _ _ _ _ _ _ _ _ _ _ _ _ _ _ _ _ _ _ _ _ _ _ _ _ _ _ _ _ _ _ _ _ _ _ _ _ _ _ _ _ _ _ _ _ _ _ _ _ _ _ _ _ _ _ _ _ _ _ _ _ _ _ _ _ _ _ _ _ _ _ _ _ _ _ _ _ _ _ _ _ _ _ _ _ _ _ _ _ _ _ _ _ _ _ _ _ _ _ _ _ _ _ _ _ _ _ _ _ _ _ _ _ _ _ _ v wF ?_
      have hfin : S0 ++ moreSecs fl S0.length ys rs = L3 ++ (if flagB fl 16 = true then [groupS (L1.length : Int) LS.length ((S0.length : Int) - 1)] else []) ++ (if flagB fl 32 = true then [indicesS (L1.length : Int)] else []) := by
        simp only [moreSecs]
        rw [← HWD.out, HZ.out, ← HLS.out, ← HLOC.out, ← HOWN.out, ← HLK.out, HL3.out, HL2.out, HL1.out]
        have h9 : S0.length + (if own = true then 1 else 0) = L1.length := HN9.out.symm
        rw [h9, HL1.out]
        simp only [List.append_assoc]
      rw [hfin]
      exact hF
end Go.Proofs.YtkbamfiokhmpjaaGreatDoor

/- Contracts over this translation, plans' models: made. -/
namespace Go.Proofs.YtkbamfiokhmpjaaGreatDoor
set_option linter.unusedVariables false
set_option linter.unusedSimpArgs false
open Go.RowKit Go.Proofs.YtkbamfiokhmpjaaGreatDoorX.Kd Go.Proofs.YtkbamfiokhmpjaaGreatDoorW.PrintWords Go.Proofs.YtkbamfiokhmpjaaGreatDoorW.PrintLast Go.Proofs.YtkbamfiokhmpjaaGreatDoorW.PrintMore
attribute [local go_sem] max2_int min2_int max_two min_two

set_option maxRecDepth 100000 in
set_option maxHeartbeats 16000000 in
theorem made_any (fl : Int) (ps : List S60) (ys : List S62) (rs : List S72) (ds : List ByteArray) (hps : ∀ x ∈ ps, x.f0.size ≤ 9223372036854775807 ∧ x.f4.size ≤ 9223372036854775807) (hys : ∀ x ∈ ys, x.f0.size ≤ 9223372036854775807) (a1 a2 a3 a4 : Option Addr) (c1 c2 c3 c4 : Nat) (w : World) (h1 : Kd.C k60 w a1 ps.length ps) (h2 : Kd.C k62 w a2 ys.length ys) (h3 : Kd.C k72 w a3 rs.length rs) (h4 : Kd.C Kd.string w a4 ds.length ds) :
    Calls Tryz.prog 5 #[.agg #[.int .i64 fl, .slice a1 ps.length c1, .slice a2 ys.length c2, .slice a3 rs.length c3, .slice a4 ds.length c4]] w fun e w' => ∃ v9 v10, e = .returned (.agg #[.bool (flagB fl 2), .bool (flagB fl 1), .int .u8 3, .int .u8 0, .int .u64 1, .int .u64 243, .int .u64 16, .int .u64 5, .int .u64 1, v9, v10]) ∧ Kd.R k54 54 w' w.heap.size (fun _ => True) v9 (madeSecs fl ps ys rs) ∧ Kd.R k76 76 w' w.heap.size (fun _ => True) v10 (segsR ds) ∧ Below w.heap.size w w' := by
  have H1 := Lib.hid h1
  have H2 := Lib.hid h2
  have H3 := Lib.hid h3
  have H4 := Lib.hid h4
  clear h1 h2 h3 h4
  obtain ⟨wide, hwide⟩ : ∃ wide, wide = flagB fl 2 := ⟨_, rfl⟩
  obtain ⟨big, hbig⟩ : ∃ big, big = flagB fl 1 := ⟨_, rfl⟩
  rw [← hwide, ← hbig]
  have HWD := Lib.hid hwide
  have HBG := Lib.hid hbig
  have e0 : (bits .and .i64 fl 2 == 2) = wide := hwide.symm
  have e1 : (bits .and .i64 fl 1 == 1) = big := hbig.symm
  clear hwide hbig
  go_enter Tryz.func5, Tryz.ntmps5
  go_upto_region 1 with (fail)
  obtain ⟨wA, hwA⟩ : ∃ wA, wA = (w.alloc (.cells #[.int .i64 fl, .slice a1 ps.length c1, .slice a2 ys.length c2, .slice a3 rs.length c3, .slice a4 ds.length c4] 38)).alloc (.cells #[.bool false, .bool false, .int .u8 0, .int .u8 0, .int .u64 0, .int .u64 0, .int .u64 0, .int .u64 0, .int .u64 0, .slice none 0 0, .slice none 0 0] 31) := ⟨_, rfl⟩
  have HA := Lib.hid (show Below w.heap.size w wA from by rw [hwA]; exact ((Below.refl _ _).alloc (Nat.le_refl _) _).alloc (by simp) _)
  have HPA := Lib.hid (show wA.heap[w.heap.size]? = some (.cells #[.int .i64 fl, .slice a1 ps.length c1, .slice a2 ys.length c2, .slice a3 rs.length c3, .slice a4 ds.length c4] 38 (0, 0)) by rw [hwA]; exact blk_alloc (blk_new w _) _)
  have HRA := Lib.hid (show wA.heap[w.heap.size + 1]? = some (.cells #[.bool false, .bool false, .int .u8 0, .int .u8 0, .int .u64 0, .int .u64 0, .int .u64 0, .int .u64 0, .int .u64 0, .slice none 0 0, .slice none 0 0] 31 (0, 0)) by
    have h := blk_new (w.alloc (.cells #[.int .i64 fl, .slice a1 ps.length c1, .slice a2 ys.length c2, .slice a3 rs.length c3, .slice a4 ds.length c4] 38)) (.cells #[.bool false, .bool false, .int .u8 0, .int .u8 0, .int .u64 0, .int .u64 0, .int .u64 0, .int .u64 0, .int .u64 0, .slice none 0 0, .slice none 0 0] 31)
    rw [World.size_alloc] at h
    rw [hwA]; exact h)
  have hszA : w.heap.size + 2 ≤ wA.heap.size := by rw [hwA]; simp
  rw [← hwA]
  clear hwA
  have HPC := Lib.hid (show ∀ W, Below wA.heap.size wA W → W.cell? ⟨w.heap.size, 0, none⟩ = some (.int .i64 fl) ∧ W.cell? ⟨w.heap.size, 1, none⟩ = some (.slice a1 ps.length c1) ∧ W.cell? ⟨w.heap.size, 2, none⟩ = some (.slice a2 ys.length c2) ∧ W.cell? ⟨w.heap.size, 3, none⟩ = some (.slice a3 rs.length c3) ∧ W.cell? ⟨w.heap.size, 4, none⟩ = some (.slice a4 ds.length c4) from fun W hb => ⟨blk_cell (blk_below HPA.out hb) 0, blk_cell (blk_below HPA.out hb) 1, blk_cell (blk_below HPA.out hb) 2, blk_cell (blk_below HPA.out hb) 3, blk_cell (blk_below HPA.out hb) 4⟩)
  have HSC := Lib.hid (fun W (hb : Below wA.heap.size wA W) => sections_any fl ps hps a1 c1 (.slice a2 ys.length c2) (.slice a3 rs.length c3) (.slice a4 ds.length c4) W (Kd.C_below H1.out (HA.out.trans (hb.mono HA.out.size))))
  go_cut [3] (fun s3 wx => ∃ m v9, s3 = .pointer (some ⟨m, 0, none⟩) ∧ Hid (MSt w wx m wide big #[.int .i64 fl, .slice a1 ps.length c1, .slice a2 ys.length c2, .slice a3 rs.length c3, .slice a4 ds.length c4] #[.bool false, .bool false, .int .u8 0, .int .u8 0, .int .u64 0, .int .u64 0, .int .u64 0, .int .u64 0, .int .u64 0, .slice none 0 0, .slice none 0 0] (fun _ => True) v9 (sectionsR ps) (.slice none 0 0)))
  case first =>
    go_region_held3 (fun W => W.cell? ⟨w.heap.size, 0, none⟩ = some (.int .i64 fl) ∧ W.cell? ⟨w.heap.size, 1, none⟩ = some (.slice a1 ps.length c1) ∧ W.cell? ⟨w.heap.size, 2, none⟩ = some (.slice a2 ys.length c2) ∧ W.cell? ⟨w.heap.size, 3, none⟩ = some (.slice a3 rs.length c3) ∧ W.cell? ⟨w.heap.size, 4, none⟩ = some (.slice a4 ds.length c4))
      (exact HPC.out _ (by repeat (first | with_reducible exact Below.refl _ _ | with_reducible assumption | with_reducible apply below_alloc | with_reducible apply pw_below_drewN | with_reducible apply below_drew1 | with_reducible refine Below.setCell ?_ (by show wA.heap.size ≤ wA.heap.size; exact Nat.le_refl _) _)))
      (first | (go_at_call 10; refine (HSC.out _ (by repeat (first | with_reducible exact Below.refl _ _ | with_reducible assumption | with_reducible apply below_alloc | with_reducible apply pw_below_drewN | with_reducible apply below_drew1 | with_reducible refine Below.setCell ?_ (by show wA.heap.size ≤ wA.heap.size; exact Nat.le_refl _) _))).mono ?_; rintro e w4 ⟨v9, rfl, hR4, hB4⟩; obtain ⟨A9, c9, rfl⟩ := Kd.R_slice hR4; have hA4 := (fun h => Below.trans h (Below.mono hB4 (Below.size h)) : Below wA.heap.size wA _ → Below wA.heap.size wA w4) (by repeat (first | with_reducible exact Below.refl _ _ | with_reducible assumption | with_reducible apply below_alloc | with_reducible apply pw_below_drewN | with_reducible apply below_drew1 | with_reducible refine Below.setCell ?_ (by show wA.heap.size ≤ wA.heap.size; exact Nat.le_refl _) _)); (first | (have xb : w4.heap[wA.heap.size]? = some (.cells #[.bool false, .bool false, .int .u8 0, .int .u8 0, .int .u64 0, .int .u64 0, .int .u64 0, .int .u64 0, .int .u64 0, .slice none 0 0, .slice none 0 0] 31 (0, 0)) := blk_below (by exact blk_new wA _) hB4; have x0 := Lib.cell_of_heap xb 0; have xf0 := Lib.frozen_of_heap xb 0; have x1 := Lib.cell_of_heap xb 1; have xf1 := Lib.frozen_of_heap xb 1; have x2 := Lib.cell_of_heap xb 2; have xf2 := Lib.frozen_of_heap xb 2; have x3 := Lib.cell_of_heap xb 3; have xf3 := Lib.frozen_of_heap xb 3; have x4 := Lib.cell_of_heap xb 4; have xf4 := Lib.frozen_of_heap xb 4; have x5 := Lib.cell_of_heap xb 5; have xf5 := Lib.frozen_of_heap xb 5; have x6 := Lib.cell_of_heap xb 6; have xf6 := Lib.frozen_of_heap xb 6; have x7 := Lib.cell_of_heap xb 7; have xf7 := Lib.frozen_of_heap xb 7; have x8 := Lib.cell_of_heap xb 8; have xf8 := Lib.frozen_of_heap xb 8; have x9 := Lib.cell_of_heap xb 9; have xf9 := Lib.frozen_of_heap xb 9; have x10 := Lib.cell_of_heap xb 10; have xf10 := Lib.frozen_of_heap xb 10; (try simp only [List.getElem?_toArray, List.getElem?_cons_succ, List.getElem?_cons_zero] at x0 x1 x2 x3 x4 x5 x6 x7 x8 x9 x10)) | skip)))
    all_goals (go_wp2_with fail; go_meet)
    all_goals first
      | have hxb := xb
        refine ⟨wA.heap.size, .slice A9 (sectionsR ps).length c9, rfl, Lib.hid ?_⟩
        unfold MSt
        refine ⟨?_, Kd.R_mono (ok := fun k => k ≠ wA.heap.size) ?_ (fun _ _ => trivial), ?_, ?_, ?_, hszA⟩
        · have xb := blk_put xb 0 (.bool wide) (cs' := #[.bool wide, .bool false, .int .u8 0, .int .u8 0, .int .u64 0, .int .u64 0, .int .u64 0, .int .u64 0, .int .u64 0, .slice none 0 0, .slice none 0 0]) rfl
          have xb := blk_put xb 1 (.bool big) (cs' := #[.bool wide, .bool big, .int .u8 0, .int .u8 0, .int .u64 0, .int .u64 0, .int .u64 0, .int .u64 0, .int .u64 0, .slice none 0 0, .slice none 0 0]) rfl
          have xb := blk_put xb 2 (.int .u8 3) (cs' := #[.bool wide, .bool big, .int .u8 3, .int .u8 0, .int .u64 0, .int .u64 0, .int .u64 0, .int .u64 0, .int .u64 0, .slice none 0 0, .slice none 0 0]) rfl
          have xb := blk_put xb 3 (.int .u8 0) (cs' := #[.bool wide, .bool big, .int .u8 3, .int .u8 0, .int .u64 0, .int .u64 0, .int .u64 0, .int .u64 0, .int .u64 0, .slice none 0 0, .slice none 0 0]) rfl
          have xb := blk_put xb 4 (.int .u64 1) (cs' := #[.bool wide, .bool big, .int .u8 3, .int .u8 0, .int .u64 1, .int .u64 0, .int .u64 0, .int .u64 0, .int .u64 0, .slice none 0 0, .slice none 0 0]) rfl
          have xb := blk_put xb 5 (.int .u64 243) (cs' := #[.bool wide, .bool big, .int .u8 3, .int .u8 0, .int .u64 1, .int .u64 243, .int .u64 0, .int .u64 0, .int .u64 0, .slice none 0 0, .slice none 0 0]) rfl
          have xb := blk_put xb 6 (.int .u64 16) (cs' := #[.bool wide, .bool big, .int .u8 3, .int .u8 0, .int .u64 1, .int .u64 243, .int .u64 16, .int .u64 0, .int .u64 0, .slice none 0 0, .slice none 0 0]) rfl
          have xb := blk_put xb 7 (.int .u64 5) (cs' := #[.bool wide, .bool big, .int .u8 3, .int .u8 0, .int .u64 1, .int .u64 243, .int .u64 16, .int .u64 5, .int .u64 0, .slice none 0 0, .slice none 0 0]) rfl
          have xb := blk_put xb 8 (.int .u64 1) (cs' := #[.bool wide, .bool big, .int .u8 3, .int .u8 0, .int .u64 1, .int .u64 243, .int .u64 16, .int .u64 5, .int .u64 1, .slice none 0 0, .slice none 0 0]) rfl
          have xb := blk_put xb 9 (.slice A9 (sectionsR ps).length c9) (cs' := #[.bool wide, .bool big, .int .u8 3, .int .u8 0, .int .u64 1, .int .u64 243, .int .u64 16, .int .u64 5, .int .u64 1, .slice A9 (sectionsR ps).length c9, .slice none 0 0]) rfl
          have xb := blk_put xb 10 (.slice none 0 0) (cs' := #[.bool wide, .bool big, .int .u8 3, .int .u8 0, .int .u64 1, .int .u64 243, .int .u64 16, .int .u64 5, .int .u64 1, .slice A9 (sectionsR ps).length c9, .slice none 0 0]) rfl
          exact xb
        · have hR5 : Kd.R k54 54 w4 (wA.heap.size + 1) (fun _ => True) (.slice A9 (sectionsR ps).length c9) (sectionsR ps) := by
            have hsz : wA.heap.size + 1 ≤ w4.heap.size := blk_lt xb
            clear xb hxb
            simpa only [World.drew, World.size_alloc] using hR4
          have hR6 := Kd.R_lower (Kd.R_mono (ok' := fun k => k ≠ wA.heap.size) (Kd.R_bound hR5) (fun k hk he => by have h := hk.2.1; rw [he] at h; omega)) (show w.heap.size ≤ wA.heap.size + 1 by omega)
          clear hR4 hR5
          (repeat (refine Kd.R_far ?_ (fun k hk => hk) _))
          exact hR6
        · (repeat (refine Below.setCell ?_ (by show w.heap.size ≤ wA.heap.size; omega) _))
          exact HA.out.trans (hA4.mono HA.out.size)
        · (repeat (refine blk_far ?_ (by show w.heap.size ≠ wA.heap.size; omega) _))
          exact blk_below HPA.out hA4
        · (repeat (refine blk_far ?_ (by show w.heap.size + 1 ≠ wA.heap.size; omega) _))
          exact blk_below HRA.out hA4
      | exact ⟨_, _, rfl, Lib.hid ⟨blk_new w4 _, Kd.R_alloc (Kd.R_lower hR4 (by show w.heap.size ≤ wA.heap.size; omega)) _, (HA.out.trans (hA4.mono HA.out.size)).alloc (Nat.le_trans HA.out.size hA4.size) _, blk_alloc (blk_below HPA.out hA4) _, blk_alloc (blk_below HRA.out hA4) _, Nat.le_trans hszA hA4.size⟩⟩
  case rest =>
    clear HPC HSC
    obtain ⟨m, v9, rfl, HM⟩ := hcut
    obtain ⟨A9, c9, rfl⟩ := Kd.R_slice HM.out.2.1
    have HN := Lib.hid (sectionsR_len ps)
    obtain ⟨S0, hS0⟩ : ∃ S0, S0 = sectionsR ps := ⟨_, rfl⟩
    rw [← hS0] at HM HN
    have HS0 := Lib.hid hS0
    clear hS0
    obtain ⟨z1, z2, z3, hz⟩ : ∃ z1 z2 z3, sizesR wide = (z1, z2, z3) := ⟨_, _, _, rfl⟩
    have HSZ := Lib.hid (fun W => by have h := sizes_any wide W; rw [hz] at h; exact h)
    have HZ := Lib.hid hz
    have q0 := blk_cell HM.out.1 0
    simp only [List.getElem?_toArray, List.getElem?_cons_succ, List.getElem?_cons_zero] at q0
    have hn8 := HN.out.2
    have hn2 := HN.out.1
    have hw1 : IntKind.u64.wrap (S0.length : Int) = (S0.length : Int) := by rw [IntKind.wrap_u64]; omega
    have hw2 : IntKind.u64.wrap ((S0.length : Int) - 1) = (S0.length : Int) - 1 := by rw [IntKind.wrap_u64]; omega
    clear hz
    go_upto_if 44 with (first | (go_at_call 11; refine (HSZ.out _).mono ?_; rintro e w5 ⟨rfl, hb5⟩; have HM5 := Lib.hid (HM.out.below hb5); have q9 := blk_cell HM5.out.1 9; have p2 := blk_cell HM5.out.2.2.2.1 2; simp only [List.getElem?_toArray, List.getElem?_cons_succ, List.getElem?_cons_zero] at q9 p2))
    go_cut [] (fun wx => ∃ v : Value, Hid (MSt w wx m wide big #[.int .i64 fl, .slice a1 ps.length c1, .slice a2 ys.length c2, .slice a3 rs.length c3, .slice a4 ds.length c4] #[.bool false, .bool false, .int .u8 0, .int .u8 0, .int .u64 0, .int .u64 0, .int .u64 0, .int .u64 0, .int .u64 0, .slice none 0 0, .slice none 0 0] (fun _ => True) v (S0 ++ (if 0 < ys.length then moreSecs fl S0.length ys rs else [])) (.slice none 0 0)))
    case first =>
      by_cases hy : 0 < ys.length
      · refine wp_cond_true (by first | exact congrArg Value.bool (decide_eq_true hy) | exact congrArg Value.bool (decide_eq_true (by omega : (0 : Int) < (ys.length : Int)))) ?_
        refine made_then fl ps ys rs ds hys a1 a2 a3 a4 A9 c1 c2 c3 c4 c9 w w5 m wide big S0 hn8 hn2 z1 z2 z3 HWD.out HZ.out H2.out H3.out HM5.out _ _ _ _ _ _ _ _ _ _ _ _ _ _ _ _ _ _ _ _ _ _ _ _ _ _ _ _ _ _ _ _ _ _ _ _ _ _ _ _ _ _ _ _ _ _ _ _ _ _ _ _ _ _ _ _ _ _ _ _ _ _ _ _ _ _ _ _ _ _ _ _ _ _ _ _ _ _ _ _ _ _ _ _ _ _ _ _ _ _ _ _ _ _ _ _ _ _ _ _ _ _ _ _ _ _ _ _ _ _ _ _ _ _ _ _ _ _ _ _ _ _ _ _ _ _ _ _ _ _ _ _ _ _ _ _ _ _ _ _ _ _ _ _ _ _ _ _ _ _ _ _ _ _ _ _ _ _ _ _ _ _ _ _ _ _ _ _ _ _ _ _ _ _ _ _ _ _ _ _ _ _ _ _ _ _ _ _ _ _ _ _ _ _ _ _ _ _ _ _ _ _ _ _ _ _ _ _ _ _ _ _ _ ?_
        intro s9 s10 s11 s12 s13 s14 s15 s45 s46 s47 s48 s49 s50 s51 s52 s53 s54 s55 s56 s57 s58 s59 s60 s61 s62 s63 s64 s65 s66 s67 s68 s69 s70 s71 s72 s73 s74 s75 s76 s77 s78 s79 s80 s81 s82 s83 s84 s85 s86 s87 s88 s89 s90 s91 s92 s93 s94 s95 s96 s97 s98 s99 s100 s101 s102 s103 s104 s105 s106 s107 s108 s109 s110 s111 s112 s113 s114 s115 s116 s117 s118 s119 s120 s121 s122 s123 s124 s125 s126 s127 s128 s129 s130 s131 s132 s133 s134 s135 s136 s137 s138 s139 s140 s141 s142 s143 s144 s145 s146 s147 s148 s149 s150 s151 s152 s153 s154 s155 s156 s157 s158 s159 s160 s161 s162 s163 s164 s165 s166 s167 s168 s169 s170 s171 s172 s173 s174 s175 s176 s177 s178 s179 s180 s181 s182 v wF hF
        go_wp2_with fail
        go_meet
        case rel => exact ⟨v, Lib.hid (by rw [if_pos hy]; exact hF)⟩
      · have HNY := Lib.hid hy
        refine wp_cond_false (by first | exact congrArg Value.bool (decide_eq_false hy) | exact congrArg Value.bool (decide_eq_false (by omega : ¬ (0 : Int) < (ys.length : Int)))) ?_
        clear hy
        go_wp2_with fail
        go_meet
        case rel => exact ⟨_, Lib.hid (by rw [if_neg HNY.out, List.append_nil]; exact HM5.out)⟩
    case rest =>
      obtain ⟨vA, HMA⟩ := hcut
      have hL : madeSecs fl ps ys rs = S0 ++ (if 0 < ys.length then moreSecs fl S0.length ys rs else []) := by unfold madeSecs; rw [← HS0.out]
      rw [← hL] at HMA
      clear hL
      obtain ⟨AA, cA, rfl⟩ := Kd.R_slice HMA.out.2.1
      refine (by assumption : ∀ (a : Act) (w : World), Code.wp _ _ _ a w → _) _ _ ?_
      exact made_tail fl ds ps.length ys.length rs.length a1 a2 a3 a4 AA c1 c2 c3 c4 cA w _ m wide big (madeSecs fl ps ys rs) H4.out HMA.out _ _ _ _ _ _ _ _ _ _ _ _ _ _ _ _ _ _ _ _ _ _ _ _ _ _ _ _ _ _ _ _ _ _ _ _ _ _ _ _ _ _ _ _ _ _ _ _ _ _ _ _ _ _ _ _ _ _ _ _ _ _ _ _ _ _ _ _ _ _ _ _ _ _ _ _ _ _ _ _ _ _ _ _ _ _ _ _ _ _ _ _ _ _ _ _ _ _ _ _ _ _ _ _ _ _ _ _ _ _ _ _ _ _ _ _ _ _ _ _ _ _ _ _ _ _ _ _ _ _ _ _ _ _ _ _ _ _ _ _ _ _ _ _ _ _ _ _ _ _ _ _ _ _ _ _ _ _ _ _ _ _ _ _ _ _ _ _ _ _ _ _ _ _ _ _ _ _ _ _ _ _ _ _ _ _ _ _ _ _ _ _ _ _ _ _ _ _ _ _ _ _ _ _ _ _ _ _ _ _ _ _ _ _ _ _ _
end Go.Proofs.YtkbamfiokhmpjaaGreatDoor

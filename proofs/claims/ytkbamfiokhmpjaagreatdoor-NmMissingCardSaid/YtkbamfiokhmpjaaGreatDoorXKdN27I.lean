/- nm.Missing. -/
import Derived.Test.YtkbamfiokhmpjaaGreatDoorXKdN27C
import Derived.Test.YtkbamfiokhmpjaaGreatDoorXKdN27D
import Derived.Test.YtkbamfiokhmpjaaGreatDoorXKdN27K
import Derived.Test.YtkbamfiokhmpjaaGreatDoorXKdN27E
namespace Go.Proofs.YtkbamfiokhmpjaaGreatDoor
set_option linter.unusedVariables false
set_option linter.unusedSimpArgs false
open Go.RowKit Go.Proofs.YtkbamfiokhmpjaaGreatDoorX.Kd Go.Proofs.YtkbamfiokhmpjaaGreatDoorW.PrintWords Go.Proofs.YtkbamfiokhmpjaaGreatDoorW.PrintLast Go.Proofs.YtkbamfiokhmpjaaGreatDoorW.PrintMore

theorem at_BA {w : World} {A : Option Addr} {ks : List (List UInt8)} (h : Kd.string.C w A (ks.map toBA).length (ks.map toBA)) (k : Nat) (h1 : k < ks.length) : ∃ ad, A = some ad ∧ w.cell? (ad.add k) = some (.string (toBA ks[k])) := by
  obtain ⟨ad, e, hc⟩ := at_Str h k (by rw [List.length_map]; exact h1) (by rw [List.length_map]; exact h1)
  rw [List.getElem_map] at hc
  exact ⟨ad, e, hc⟩
theorem infoStr : (Tryz.prog.info? 9).map (fun i => (i.zero, i.size, i.bytes)) = some (some (.string ⟨#[]⟩), 1, 16) := by kernel_rfl
set_option maxRecDepth 100000 in
set_option maxHeartbeats 16000000 in
theorem missing_any (ms : List MdD) (hms : okMs ms) (A : Option Addr) (ca : Nat) (w : World) (hC : Kd.C kMod w A ms.length ms) :
    Calls Tryz.prog 7 #[.slice A ms.length ca] w fun e w' => ∃ v ks, e = .returned v ∧ Kd.R Kd.string 9 w' w.heap.size (fun _ => True) v (List.map toBA ks) ∧ ks.Pairwise (· < ·) ∧ (∀ s, s ∈ ks ↔ (s ∈ incsM tNeed ms ∧ s ∉ incsM tDef ms)) ∧ ks.length ≤ 1000 ∧ Below w.heap.size w w' := by
  have HN1 := Lib.hid (fun W (hb : Below w.heap.size w W) => names_tDef ms hms A ca W (Kd.C_below hC hb))
  have HN2 := Lib.hid (fun W (hb : Below w.heap.size w W) => names_tNeed ms hms A ca W (Kd.C_below hC hb))
  have HLE := Lib.hid (incsM_len tNeed ms hms)
  have HSH := Lib.hid (incsM_short tNeed ms hms)
  obtain ⟨I1, hI1⟩ : ∃ I1, I1 = incsM tDef ms := ⟨_, rfl⟩
  obtain ⟨I2, hI2⟩ : ∃ I2, I2 = incsM tNeed ms := ⟨_, rfl⟩
  rw [← hI1] at HN1 ⊢
  rw [← hI2] at HN2 HLE HSH ⊢
  clear hI1 hI2 hC hms
  go_enter Tryz.func7, Tryz.ntmps7
  go_upto_region 3 with (first
    | (go_at_call 13; refine (HN1.out _ (Below.refl _ _)).mono ?_; rintro e w1 ⟨g1, n1, rfl, hg1, hn1, hO1, hB1⟩; have HO1a := Lib.hid hO1; have HB1 := Lib.hid hB1; clear hg1 hn1 hO1 hB1))
  go_upto_region 4 with (first
    | (go_at_call 13; refine (HN2.out _ HB1.out).mono ?_; rintro e w2 ⟨gk, nk, rfl, hg2, hn2, hO2, hB2⟩; have HOk := Lib.hid hO2; have HO1 := Lib.hid (owns_below HO1a.out hB2); have HBK := Lib.hid (HB1.out.trans (hB2.mono HB1.out.size)); clear hg2 hn2 hO2 hB2))
  have hmap := HOk.out
  have HS := Lib.hid (Tryz.slices_Sorted_keys_17_18 gk nk (cntD I2) _ w2 hmap (by have := cnt_size hmap; have := HLE.out; unfold maxLen; omega) (by have := cnt_size hmap; have := HLE.out; omega))
  have HK := Lib.hid (Tryz.maps_Keys_18 (some gk) w2)
  have HPM := Lib.hid (cnt_keys hmap)
  clear hmap
  go_wp2_with (first
    | (go_at_call 18; refine ((callsIn_wide (n := 5)).1 HK.out).mono ?_; rintro e wk ⟨rfl, rfl⟩)
    | (go_at_call 17; refine ((callsIn_wide (n := 5)).1 HS.out).mono ?_; rintro e w4 ⟨v4, s2, rfl, hS, hrow, hnil, hb⟩; obtain ⟨ks, hR, hPW, hMEM, hlen⟩ := sorted_facts hS HPM.out hrow; obtain ⟨A4, c4, rfl, l4, hC4⟩ := Kd.R_reads hR; have HC4 := Lib.hid hC4; have HPW := Lib.hid hPW; have HMEM := Lib.hid hMEM; have HKL := Lib.hid (show ks.length ≤ 884 from Nat.le_trans hlen HLE.out); have HB4 := Lib.hid (show Below w.heap.size w w4 from (below_alloc HBK.out _).trans (hb.mono (below_alloc HBK.out _).size)); have HM4 := Lib.hid (owns_below (owns_below HO1.out (below_alloc (Below.refl _ _) (.cells #[.map (some gk)] 26))) hb); clear hS hrow hnil hb hR hPW hMEM hlen l4 hC4))
  clear HS HK HPM
  go_loopw [4, 16] (fun v i wr => ∃ k : Nat, k ≤ ks.length ∧ i = .int .i64 k ∧ Hid (Kd.R Kd.string 9 wr w4.heap.size (fun _ => True) v (List.map toBA ((ks.take k).filter (fun s => I1.count s == 0))) ∧ Below w4.heap.size w4 wr)) (fun _ i _ => ks.length - (intOf i).toNat)
  case atStart => exact ⟨0, Nat.zero_le _, rfl, Lib.hid ⟨Kd.R_nil _ _ _ _ _, Below.refl _ _⟩⟩
  case round =>
    obtain ⟨k, hk, rfl, HR⟩ := hrel
    by_cases hlt : k < ks.length
    · obtain ⟨ad, hA, hx⟩ := at_BA HC4.out k hlt
      subst hA
      replace hx := (HR.out.2.cell (World.block_lt_of_cell? w4 _ hx)).trans hx
      have HTK := Lib.hid (show (ks.take (k + 1)).filter (fun s => I1.count s == 0) = (ks.take k).filter (fun s => I1.count s == 0) ++ (if (I1.count ks[k] == 0) = true then [ks[k]] else []) by
        rw [List.take_succ_eq_append_getElem hlt, List.filter_append, List.filter_cons]; rfl)
      have hsz : (toBA ks[k]).size ≤ maxLen := by
        have h := HSH.out ks[k] ((HMEM.out _).1 (List.getElem_mem hlt))
        show ks[k].toArray.size ≤ maxLen
        unfold maxLen; rw [List.size_toArray]; omega
      have hlk := cnt_look (owns_below HM4.out HR.out.2) (toBA ks[k]) hsz
      rw [show (toBA ks[k]).data.toList = ks[k] from by simp [toBA]] at hlk
      obtain ⟨s, hs⟩ : ∃ s, s = ks[k] := ⟨_, rfl⟩
      rw [← hs] at hx HTK hlk hsz
      clear hs
      obtain ⟨cn, hcn⟩ : ∃ cn, cn = I1.count s := ⟨_, rfl⟩
      rw [← hcn] at HTK hlk
      obtain ⟨bs, hbs⟩ : ∃ bs, bs = toBA s := ⟨_, rfl⟩
      rw [← hbs] at hx hlk
      have HBS := Lib.hid hbs
      obtain ⟨tb, htb⟩ : ∃ tb, tb = (cn == 0) := ⟨_, rfl⟩
      rw [← htb] at HTK
      have c0 : ((cn : Int) == 0) = tb := by rw [htb, Bool.eq_iff_iff, beq_iff_eq, beq_iff_eq]; omega
      have c1 : (cn == 0) = tb := by rw [htb]
      have HLT := Lib.hid hlt
      have km : (k : Int) < (ks.length : Int) := by omega
      have km0 : (0 : Int) ≤ (k : Int) := by omega
      have kw : IntKind.i64.wrap ((k : Int) + 1) = ((k + 1 : Nat) : Int) := by rw [IntKind.wrap_i64]; have := HKL.out; omega
      obtain ⟨XS, hXS⟩ : ∃ XS, XS = List.map toBA ((ks.take k).filter (fun s => I1.count s == 0)) := ⟨_, rfl⟩
      have hXL : XS.length ≤ 884 := by
        rw [hXS, List.length_map]; refine Nat.le_trans (List.length_filter_le _ _) ?_; rw [List.length_take]; have := HKL.out; omega
      have HXN := Lib.hid (show List.map toBA ((ks.take (k + 1)).filter (fun s => I1.count s == 0)) = XS ++ (if tb = true then [bs] else []) by
        rw [HTK.out, List.map_append, ← hXS]; congr 1; rw [HBS.out]; cases tb <;> rfl)
      rw [← hXS] at HR
      clear hXS HTK hcn hbs htb hsz
      obtain ⟨AX, cX, rfl⟩ := Kd.R_slice HR.out.1
      cases tb
      · go_wp2
        exact ⟨⟨k + 1, HLT.out, rfl, Lib.hid (by rw [HXN.out, if_neg (by decide), List.append_nil]; exact HR.out)⟩, by have := HLT.out; simp only [intOf]; omega⟩
      · go_wp2_with (first | (at_builtin; refine Kd.R_append Kd.string (w0 := w4) w4.heap.size rfl (.tmp 24) (.tmp 26) 36 9 _ _ rfl Tryz.underlying36 infoStr rfl (by decide) (by omega) (.slice AX XS.length cX) XS bs _ (fun _ => True) (fun _ => False) rfl rfl rfl (fun _ h => h.elim) (fun _ _ => trivial) HR.out.1 HR.out.2 HR.out.2.size (by omega) ?_))
        intro v6 w6 hR6 hB6 hG6 hat6
        have HS6 := Lib.hid (And.intro hR6 hB6)
        clear hR6 hB6 hG6 hat6
        go_wp2
        exact ⟨⟨k + 1, HLT.out, rfl, Lib.hid (by rw [HXN.out, if_pos (by first | rfl | trivial)]; exact HS6.out)⟩, by have := HLT.out; simp only [intOf]; omega⟩
    · have hke : k = ks.length := by omega
      subst hke
      rw [List.take_length] at HR
      go_wp2
      go_ret
      exact ⟨_, ks.filter (fun s => I1.count s == 0), rfl, Kd.R_lower HR.out.1 HB4.out.size, HPW.out.filter _, fun s => by rw [List.mem_filter, HMEM.out]; rw [beq_iff_eq, List.count_eq_zero], Nat.le_trans (List.length_filter_le _ _) (Nat.le_trans HKL.out (by decide)), HB4.out.trans (HR.out.2.mono HB4.out.size)⟩
end Go.Proofs.YtkbamfiokhmpjaaGreatDoor

/- nm.Doubled. -/
namespace Go.Proofs.YtkbamfiokhmpjaaGreatDoor
set_option linter.unusedVariables false
set_option linter.unusedSimpArgs false
open Go.RowKit Go.Proofs.YtkbamfiokhmpjaaGreatDoorX.Kd Go.Proofs.YtkbamfiokhmpjaaGreatDoorW.PrintWords Go.Proofs.YtkbamfiokhmpjaaGreatDoorW.PrintLast Go.Proofs.YtkbamfiokhmpjaaGreatDoorW.PrintMore

set_option maxRecDepth 100000 in
set_option maxHeartbeats 16000000 in
theorem doubled_any (ms : List MdD) (hms : okMs ms) (A : Option Addr) (ca : Nat) (w : World) (hC : Kd.C kMod w A ms.length ms) :
    Calls Tryz.prog 8 #[.slice A ms.length ca] w fun e w' => ∃ v ks, e = .returned v ∧ Kd.R Kd.string 9 w' w.heap.size (fun _ => True) v (List.map toBA ks) ∧ ks.Pairwise (· < ·) ∧ (∀ s, s ∈ ks ↔ 2 ≤ (incsM tStrong ms).count s) ∧ ks.length ≤ 1000 ∧ Below w.heap.size w w' := by
  have HN1 := Lib.hid (fun W (hb : Below w.heap.size w W) => names_tStrong ms hms A ca W (Kd.C_below hC hb))
  have HLE := Lib.hid (incsM_len tStrong ms hms)
  have HSH := Lib.hid (incsM_short tStrong ms hms)
  obtain ⟨I1, hI1⟩ : ∃ I1, I1 = incsM tStrong ms := ⟨_, rfl⟩
  rw [← hI1] at HN1 HLE HSH ⊢
  clear hI1 hC hms
  go_enter Tryz.func8, Tryz.ntmps8
  go_upto_region 3 with (first
    | (go_at_call 13; refine (HN1.out _ (Below.refl _ _)).mono ?_; rintro e w2 ⟨gk, nk, rfl, hg1, hn1, hO1, hB1⟩; have HOk := Lib.hid hO1; have HO1 := Lib.hid hO1; have HBK := Lib.hid hB1; clear hg1 hn1 hO1 hB1))
  have hmap := HOk.out
  have HS := Lib.hid (Tryz.slices_Sorted_keys_17_18 gk nk (cntD I1) _ w2 hmap (by have := cnt_size hmap; have := HLE.out; unfold maxLen; omega) (by have := cnt_size hmap; have := HLE.out; omega))
  have HK := Lib.hid (Tryz.maps_Keys_18 (some gk) w2)
  have HPM := Lib.hid (cnt_keys hmap)
  clear hmap
  go_wp2_with (first
    | (go_at_call 18; refine ((callsIn_wide (n := 5)).1 HK.out).mono ?_; rintro e wk ⟨rfl, rfl⟩)
    | (go_at_call 17; refine ((callsIn_wide (n := 5)).1 HS.out).mono ?_; rintro e w4 ⟨v4, s2, rfl, hS, hrow, hnil, hb⟩; obtain ⟨ks, hR, hPW, hMEM, hlen⟩ := sorted_facts hS HPM.out hrow; obtain ⟨A4, c4, rfl, l4, hC4⟩ := Kd.R_reads hR; have HC4 := Lib.hid hC4; have HPW := Lib.hid hPW; have HMEM := Lib.hid hMEM; have HKL := Lib.hid (show ks.length ≤ 884 from Nat.le_trans hlen HLE.out); have HB4 := Lib.hid (show Below w.heap.size w w4 from (below_alloc HBK.out _).trans (hb.mono (below_alloc HBK.out _).size)); have HM4 := Lib.hid (owns_below (owns_below HO1.out (below_alloc (Below.refl _ _) (.cells #[.map (some gk)] 26))) hb); clear hS hrow hnil hb hR hPW hMEM hlen l4 hC4))
  clear HS HK HPM
  go_loopw [3, 13] (fun v i wr => ∃ k : Nat, k ≤ ks.length ∧ i = .int .i64 k ∧ Hid (Kd.R Kd.string 9 wr w4.heap.size (fun _ => True) v (List.map toBA ((ks.take k).filter (fun s => decide (1 < I1.count s)))) ∧ Below w4.heap.size w4 wr)) (fun _ i _ => ks.length - (intOf i).toNat)
  case atStart => exact ⟨0, Nat.zero_le _, rfl, Lib.hid ⟨Kd.R_nil _ _ _ _ _, Below.refl _ _⟩⟩
  case round =>
    obtain ⟨k, hk, rfl, HR⟩ := hrel
    by_cases hlt : k < ks.length
    · obtain ⟨ad, hA, hx⟩ := at_BA HC4.out k hlt
      subst hA
      replace hx := (HR.out.2.cell (World.block_lt_of_cell? w4 _ hx)).trans hx
      have HTK := Lib.hid (show (ks.take (k + 1)).filter (fun s => decide (1 < I1.count s)) = (ks.take k).filter (fun s => decide (1 < I1.count s)) ++ (if (decide (1 < I1.count ks[k])) = true then [ks[k]] else []) by
        rw [List.take_succ_eq_append_getElem hlt, List.filter_append, List.filter_cons]; rfl)
      have hsz : (toBA ks[k]).size ≤ maxLen := by
        have h := HSH.out ks[k] ((HMEM.out _).1 (List.getElem_mem hlt))
        show ks[k].toArray.size ≤ maxLen
        unfold maxLen; rw [List.size_toArray]; omega
      have hlk := cnt_look (owns_below HM4.out HR.out.2) (toBA ks[k]) hsz
      rw [show (toBA ks[k]).data.toList = ks[k] from by simp [toBA]] at hlk
      obtain ⟨s, hs⟩ : ∃ s, s = ks[k] := ⟨_, rfl⟩
      rw [← hs] at hx HTK hlk hsz
      clear hs
      obtain ⟨cn, hcn⟩ : ∃ cn, cn = I1.count s := ⟨_, rfl⟩
      rw [← hcn] at HTK hlk
      obtain ⟨bs, hbs⟩ : ∃ bs, bs = toBA s := ⟨_, rfl⟩
      rw [← hbs] at hx hlk
      have HBS := Lib.hid hbs
      obtain ⟨tb, htb⟩ : ∃ tb, tb = (decide (1 < cn)) := ⟨_, rfl⟩
      rw [← htb] at HTK
      have c0 : decide ((1 : Int) < (cn : Int)) = tb := by rw [htb]; exact decide_eq_decide.2 (by omega)
      have c1 : decide (1 < cn) = tb := by rw [htb]
      have HLT := Lib.hid hlt
      have km : (k : Int) < (ks.length : Int) := by omega
      have km0 : (0 : Int) ≤ (k : Int) := by omega
      have kw : IntKind.i64.wrap ((k : Int) + 1) = ((k + 1 : Nat) : Int) := by rw [IntKind.wrap_i64]; have := HKL.out; omega
      obtain ⟨XS, hXS⟩ : ∃ XS, XS = List.map toBA ((ks.take k).filter (fun s => decide (1 < I1.count s))) := ⟨_, rfl⟩
      have hXL : XS.length ≤ 884 := by
        rw [hXS, List.length_map]; refine Nat.le_trans (List.length_filter_le _ _) ?_; rw [List.length_take]; have := HKL.out; omega
      have HXN := Lib.hid (show List.map toBA ((ks.take (k + 1)).filter (fun s => decide (1 < I1.count s))) = XS ++ (if tb = true then [bs] else []) by
        rw [HTK.out, List.map_append, ← hXS]; congr 1; rw [HBS.out]; cases tb <;> rfl)
      rw [← hXS] at HR
      clear hXS HTK hcn hbs htb hsz
      obtain ⟨AX, cX, rfl⟩ := Kd.R_slice HR.out.1
      cases tb
      · go_wp2
        exact ⟨⟨k + 1, HLT.out, rfl, Lib.hid (by rw [HXN.out, if_neg (by decide), List.append_nil]; exact HR.out)⟩, by have := HLT.out; simp only [intOf]; omega⟩
      · go_wp2_with (first | (at_builtin; refine Kd.R_append Kd.string (w0 := w4) w4.heap.size rfl (.tmp 21) (.tmp 23) 36 9 _ _ rfl Tryz.underlying36 infoStr rfl (by decide) (by omega) (.slice AX XS.length cX) XS bs _ (fun _ => True) (fun _ => False) rfl rfl rfl (fun _ h => h.elim) (fun _ _ => trivial) HR.out.1 HR.out.2 HR.out.2.size (by omega) ?_))
        intro v6 w6 hR6 hB6 hG6 hat6
        have HS6 := Lib.hid (And.intro hR6 hB6)
        clear hR6 hB6 hG6 hat6
        go_wp2
        exact ⟨⟨k + 1, HLT.out, rfl, Lib.hid (by rw [HXN.out, if_pos (by first | rfl | trivial)]; exact HS6.out)⟩, by have := HLT.out; simp only [intOf]; omega⟩
    · have hke : k = ks.length := by omega
      subst hke
      rw [List.take_length] at HR
      go_wp2
      go_ret
      exact ⟨_, ks.filter (fun s => decide (1 < I1.count s)), rfl, Kd.R_lower HR.out.1 HB4.out.size, HPW.out.filter _, fun s => by rw [List.mem_filter, HMEM.out]; rw [decide_eq_true_eq]; exact ⟨fun h => h.2, fun h => ⟨List.count_pos_iff.1 (by omega), h⟩⟩, Nat.le_trans (List.length_filter_le _ _) (Nat.le_trans HKL.out (by decide)), HB4.out.trans (HR.out.2.mono HB4.out.size)⟩
end Go.Proofs.YtkbamfiokhmpjaaGreatDoor

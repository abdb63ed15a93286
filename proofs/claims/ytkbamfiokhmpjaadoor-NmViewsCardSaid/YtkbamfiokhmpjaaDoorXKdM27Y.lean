/- NmViews' walk. -/
import Derived.Test.YtkbamfiokhmpjaaDoorXKdM27P
namespace Go.Proofs.YtkbamfiokhmpjaaDoor
set_option linter.unusedVariables false
set_option linter.unusedSimpArgs false
open Go.RowKit Go.Proofs.YtkbamfiokhmpjaaDoorX.Kd Go.Proofs.YtkbamfiokhmpjaaDoorW.PrintWords Go.Proofs.YtkbamfiokhmpjaaDoorW.PrintLast Go.Proofs.YtkbamfiokhmpjaaDoorW.PrintMore

theorem dch_ne : ∀ n : Nat, n < 16 → dch n ≠ 32 := by decide
theorem bdig_ne : ∀ (n : Nat) (c : UInt8), c ∈ bdig 16 n → c ≠ 32 := by
  intro n
  induction n using Nat.strongRecOn with
  | _ n ih =>
    intro c hc
    by_cases h : n < 16
    · rw [bdig_small h, List.mem_singleton] at hc
      rw [hc]; exact dch_ne n h
    · rw [bdig_big (by decide) (by omega)] at hc
      rcases List.mem_append.1 hc with hc | hc
      · exact ih (n / 16) (by omega) c hc
      · rw [List.mem_singleton] at hc
        rw [hc]; exact dch_ne _ (Nat.mod_lt _ (by decide))
theorem bdig_pos (n : Nat) : 0 < (bdig 16 n).length := by
  by_cases h : n < 16
  · rw [bdig_small h]; exact Nat.zero_lt_one
  · rw [bdig_big (by decide) (by omega), List.length_append, List.length_singleton]; omega
theorem hexR_word (n : Nat) (hn : n < 65536) (wide : Bool) : (hexR n (2 * wordR wide)).length = (2 * wordR wide).toNat ∧ ∀ c ∈ hexR n (2 * wordR wide), c ≠ 32 := by
  have hl := bdig_len 16 (by decide) 4 n (by simpa using hn) (by decide)
  have hp := bdig_pos n
  have hb := bdig_ne n
  constructor
  · unfold hexR padN
    rw [List.length_append, padL_len]
    cases wide
    · show ((if (if (16 : Int) < 2 * 4 then 16 else 2 * 4) < ((bdig 16 n).length : Int) then ((bdig 16 n).length : Int) else (if (16 : Int) < 2 * 4 then 16 else 2 * 4)) - ((bdig 16 n).length : Int)).toNat + (bdig 16 n).length = (2 * 4 : Int).toNat
      rw [if_neg (show ¬ (16 : Int) < 2 * 4 by decide), if_neg (by omega)]; omega
    · show ((if (if (16 : Int) < 2 * 8 then 16 else 2 * 8) < ((bdig 16 n).length : Int) then ((bdig 16 n).length : Int) else (if (16 : Int) < 2 * 8 then 16 else 2 * 8)) - ((bdig 16 n).length : Int)).toNat + (bdig 16 n).length = (2 * 8 : Int).toNat
      rw [if_neg (show ¬ (16 : Int) < 2 * 8 by decide), if_neg (by omega)]; omega
  · intro c hc
    unfold hexR at hc
    rcases List.mem_append.1 hc with hc | hc
    · unfold padL at hc
      rw [List.eq_of_mem_replicate hc]; decide
    · exact hb c hc
/-- What a view tells of a row: so many bytes, a blank ahead just where it is not defined. -/
theorem valR_spec (wide : Bool) (r : S64) (h0 : 0 ≤ r.f0) (h1 : r.f0 < 65536) : ∃ (b : UInt8) (t : List UInt8), valR wide r = ⟨(b :: t).toArray⟩ ∧ (((b :: t).length : Nat) : Int) = 2 * wordR wide ∧ ((b.toNat : Int) == 32) = undB r.f2 := by
  have hw : 8 ≤ (2 * wordR wide).toNat ∧ ((2 * wordR wide).toNat : Int) = 2 * wordR wide := by cases wide <;> decide
  by_cases hu : undB r.f2 = true
  · obtain ⟨k, hk⟩ : ∃ k, (2 * wordR wide).toNat = k + 1 := ⟨(2 * wordR wide).toNat - 1, by omega⟩
    refine ⟨32, List.replicate k 32, ?_, ?_, ?_⟩
    · unfold valR; rw [if_pos hu, hk]; rfl
    · rw [List.length_cons, List.length_replicate]; omega
    · rw [hu]; rfl
  · obtain ⟨hl, hc⟩ := hexR_word r.f0.toNat (by omega) wide
    have hv : valR wide r = ⟨(hexR r.f0.toNat (2 * wordR wide)).toArray⟩ := by unfold valR; rw [if_neg hu]
    obtain ⟨l, hle⟩ : ∃ l, l = hexR r.f0.toNat (2 * wordR wide) := ⟨_, rfl⟩
    rw [← hle] at hl hc hv
    match l, hl, hc, hv with
    | [], hl, _, _ => simp at hl; omega
    | b :: t, hl, hc, hv =>
      refine ⟨b, t, hv, by rw [hl]; exact hw.2, ?_⟩
      have hb := hc b (List.mem_cons_self)
      rw [Bool.eq_false_iff.2 hu]
      refine beq_eq_false_iff_ne.2 (fun he => hb ?_)
      have : b.toNat = 32 := by omega
      exact UInt8.toNat_inj.1 (by simpa using this)
theorem str_first (b : UInt8) (t : List UInt8) (W : World) : (Instr.index 9 (.string ⟨(b :: t).toArray⟩) (.int .i64 0)).run Tryd.prog W = .ok (.int .u8 (b.toNat : Int)) W := str_index (b :: t) 0 b (by simp) rfl W
set_option maxRecDepth 100000 in
set_option maxHeartbeats 32000000 in
theorem views_walk (z : S27) (hz : okP z) (cs : List Value) (fl : Int) (w : World) (h0 : k27.K w z cs) (ht : Tabs w) :
    Calls Tryd.prog 5 #[.agg cs.toArray, .int .i64 fl] w fun e w' => e = .returned (.bool true) ∧ Below w.heap.size w w' := by
  obtain ⟨a01, c01, a02, c02, a03, c03, a04, c04, rfl, g1, g2, g3, g4⟩ := k27_open h0
  have H0 := Lib.hid (And.intro g1 (And.intro g2 (And.intro g3 g4)))
  have HT := Lib.hid ht
  obtain ⟨o1, ho1⟩ : ∃ o, o = (bits .and .i64 fl 1 == 1) := ⟨_, rfl⟩
  obtain ⟨o2, ho2⟩ : ∃ o, o = (bits .and .i64 fl 2 == 2) := ⟨_, rfl⟩
  obtain ⟨o4, ho4⟩ : ∃ o, o = (bits .and .i64 fl 4 == 4) := ⟨_, rfl⟩
  replace ho1 := ho1.symm
  replace ho2 := ho2.symm
  replace ho4 := ho4.symm
  clear g1 g2 g3 g4 ht h0
  go_enter Tryd.func5, Tryd.ntmps5
  go_upto_region 3 with (first | (go_at_call 6; refine (speaks_any _ (HT.out.below (below_alloc (Below.refl _ _) _))).mono ?_; rintro e w1 ⟨rfl, hb1⟩; have HB1 := Lib.hid hb1; clear hb1))
  have HP1 := Lib.hid (show w1.heap[w.heap.size]? = some (.cells #[.int .i64 z.f0, .slice a01 z.f1.length c01, .slice a02 z.f2.length c02, .slice a03 z.f3.length c03, .slice a04 z.f4.length c04] 27 (0, 0)) ∧ Below w.heap.size w w1 from by
    have h0 := blk_new w (.cells #[.int .i64 z.f0, .slice a01 z.f1.length c01, .slice a02 z.f2.length c02, .slice a03 z.f3.length c03, .slice a04 z.f4.length c04] 27)
    exact ⟨blk_below h0 HB1.out, (below_alloc (Below.refl w.heap.size w) _).trans (HB1.out.mono (by simp))⟩)
  clear HB1
  have p0 := (blk_cell HP1.out.1 0).trans rfl
  have p1 := (blk_cell HP1.out.1 1).trans rfl
  have p2 := (blk_cell HP1.out.1 2).trans rfl
  have p3 := (blk_cell HP1.out.1 3).trans rfl
  have p4 := (blk_cell HP1.out.1 4).trans rfl
  go_upto_region 5 with (first
    | (go_at_call 7; refine (made_z z hz a01 a02 a03 a04 c01 c02 c03 c04 _ (Kd.C_below H0.out.1 HP1.out.2) (Kd.C_below H0.out.2.1 HP1.out.2) (Kd.C_below H0.out.2.2.1 HP1.out.2) (Kd.C_below H0.out.2.2.2 HP1.out.2)).mono ?_; rintro e w2 ⟨v2, rfl, hM, hB2⟩; have HM2 := Lib.hid hM; have HB2 := Lib.hid (HP1.out.2.trans (hB2.mono HP1.out.2.size)); clear hM hB2)
    | (go_at_call 9; refine (told_z z v2 _ HM2.out).mono ?_; rintro e w3 ⟨u3, rfl, hT3, hB3⟩; obtain ⟨B9, d9, B10, d10, rfl, h9, h10⟩ := hT3; have HT3 := Lib.hid (show TDv z w3 _ from ⟨B9, d9, B10, d10, rfl, h9, h10⟩); have HB3 := Lib.hid (HB2.out.trans (hB3.mono HB2.out.size)); clear h9 h10 hB3))
  clear p0 p1 p2 p3 p4 HP1 HM2 HB2
  obtain ⟨wb, hwb⟩ : ∃ wb, wb = (w3.alloc (.cells #[.bool (flagB z.f0 1), .bool (flagB z.f0 2), .int .u8 3, .int .u8 0, .string ⟨#[]⟩, .int .u64 1, .int .u64 243, .int .u64 16, .int .u64 5, .int .u64 1, .slice B9 (PM z).L.length d9, .slice B10 (PM z).D.length d10] 48)).alloc (.cells #[.bool o1, .bool o2, .bool o4] 54) := ⟨_, rfl⟩
  obtain ⟨g0, hg0⟩ : ∃ g0, g0 = w3.heap.size := ⟨_, rfl⟩
  obtain ⟨g1, hg1⟩ : ∃ g1, g1 = w3.heap.size + 1 := ⟨_, rfl⟩
  have HM5 := Lib.hid (show wb.heap[g0]? = some (.cells #[.bool (flagB z.f0 1), .bool (flagB z.f0 2), .int .u8 3, .int .u8 0, .string ⟨#[]⟩, .int .u64 1, .int .u64 243, .int .u64 16, .int .u64 5, .int .u64 1, .slice B9 (PM z).L.length d9, .slice B10 (PM z).D.length d10] 48 (0, 0)) ∧ wb.heap[g1]? = some (.cells #[.bool o1, .bool o2, .bool o4] 54 (0, 0)) from by
    have h1 := blk_new (w3.alloc (.cells #[.bool (flagB z.f0 1), .bool (flagB z.f0 2), .int .u8 3, .int .u8 0, .string ⟨#[]⟩, .int .u64 1, .int .u64 243, .int .u64 16, .int .u64 5, .int .u64 1, .slice B9 (PM z).L.length d9, .slice B10 (PM z).D.length d10] 48)) (.cells #[.bool o1, .bool o2, .bool o4] 54)
    rw [World.size_alloc, ← hwb, ← hg1] at h1
    exact ⟨by rw [hwb, hg0]; exact blk_alloc (blk_new w3 _) _, h1⟩)
  have HBb := Lib.hid (show Below w3.heap.size w3 wb from by rw [hwb]; exact below_alloc (below_alloc (Below.refl _ _) _) _)
  rw [← hwb, ← hg1, ← hg0]
  have HTb := Lib.hid (HT3.out.below HBb.out)
  have HBw := Lib.hid (HB3.out.trans (HBb.out.mono HB3.out.size))
  have HTT := Lib.hid (HT.out.below HBw.out)
  clear hwb hg0 hg1 HT3 HB3 HBb HT H0 ho1 ho2 ho4
  have HC5 := Lib.hid (show ∀ W, Below wb.heap.size wb W → W.cell? ⟨g0, 0, none⟩ = some (.bool (flagB z.f0 1)) ∧ W.cell? ⟨g0, 1, none⟩ = some (.bool (flagB z.f0 2)) ∧ W.cell? ⟨g0, 2, none⟩ = some (.int .u8 3) ∧ W.cell? ⟨g0, 3, none⟩ = some (.int .u8 0) ∧ W.cell? ⟨g0, 4, none⟩ = some (.string ⟨#[]⟩) ∧ W.cell? ⟨g0, 5, none⟩ = some (.int .u64 1) ∧ W.cell? ⟨g0, 6, none⟩ = some (.int .u64 243) ∧ W.cell? ⟨g0, 7, none⟩ = some (.int .u64 16) ∧ W.cell? ⟨g0, 8, none⟩ = some (.int .u64 5) ∧ W.cell? ⟨g0, 9, none⟩ = some (.int .u64 1) ∧ W.cell? ⟨g0, 10, none⟩ = some (.slice B9 (PM z).L.length d9) ∧ W.cell? ⟨g0, 11, none⟩ = some (.slice B10 (PM z).D.length d10) ∧ W.cell? ⟨g1, 0, none⟩ = some (.bool o1) ∧ W.cell? ⟨g1, 1, none⟩ = some (.bool o2) ∧ W.cell? ⟨g1, 2, none⟩ = some (.bool o4) from fun W hb => ⟨blk_cell (blk_below HM5.out.1 hb) 0, blk_cell (blk_below HM5.out.1 hb) 1, blk_cell (blk_below HM5.out.1 hb) 2, blk_cell (blk_below HM5.out.1 hb) 3, blk_cell (blk_below HM5.out.1 hb) 4, blk_cell (blk_below HM5.out.1 hb) 5, blk_cell (blk_below HM5.out.1 hb) 6, blk_cell (blk_below HM5.out.1 hb) 7, blk_cell (blk_below HM5.out.1 hb) 8, blk_cell (blk_below HM5.out.1 hb) 9, blk_cell (blk_below HM5.out.1 hb) 10, blk_cell (blk_below HM5.out.1 hb) 11, blk_cell (blk_below HM5.out.2 hb) 0, blk_cell (blk_below HM5.out.2 hb) 1, blk_cell (blk_below HM5.out.2 hb) 2⟩)
  have HRW := Lib.hid (fun W (hb : Below wb.heap.size wb W) => rows_t z o1 o2 o4 _ W (HTb.out.below hb))
  have HVW := Lib.hid (fun W (hb : Below wb.heap.size wb W) => view_t z o1 o2 o4 _ W (HTb.out.below hb) (HTT.out.below hb))
  have hlen : (sortRows (rowsS (PM z).L o1 o2 o4 (symsL (PM z).L))).length < 20 := by
    rw [(rows_perm (PM z).L o1 o2 o4 (symsL (PM z).L)).1.length_eq]
    exact Nat.lt_of_le_of_lt (rowsS_len _ _ _ _ _) (plan_syms z)
  have hbd : ∀ r ∈ sortRows (rowsS (PM z).L o1 o2 o4 (symsL (PM z).L)), 0 ≤ r.f0 ∧ r.f0 < 65536 := by
    intro r hr
    obtain ⟨s, i, hs, rfl, _⟩ := rowsS_in ((rows_perm (PM z).L o1 o2 o4 (symsL (PM z).L)).1.mem_iff.1 hr)
    obtain ⟨c, hc, hsc⟩ := symsL_in (List.mem_of_getElem? hs)
    exact (plan_ok z c hc s hsc).2
  unfold viewR at HVW
  obtain ⟨xs, hxs⟩ : ∃ xs, xs = sortRows (rowsS (PM z).L o1 o2 o4 (symsL (PM z).L)) := ⟨_, rfl⟩
  rw [← hxs] at HRW HVW hlen hbd
  have HBD := Lib.hid hbd
  have HLN := Lib.hid hlen
  clear hxs hbd hlen
  go_region_held3 (fun W => W.cell? ⟨g0, 0, none⟩ = some (.bool (flagB z.f0 1)) ∧ W.cell? ⟨g0, 1, none⟩ = some (.bool (flagB z.f0 2)) ∧ W.cell? ⟨g0, 2, none⟩ = some (.int .u8 3) ∧ W.cell? ⟨g0, 3, none⟩ = some (.int .u8 0) ∧ W.cell? ⟨g0, 4, none⟩ = some (.string ⟨#[]⟩) ∧ W.cell? ⟨g0, 5, none⟩ = some (.int .u64 1) ∧ W.cell? ⟨g0, 6, none⟩ = some (.int .u64 243) ∧ W.cell? ⟨g0, 7, none⟩ = some (.int .u64 16) ∧ W.cell? ⟨g0, 8, none⟩ = some (.int .u64 5) ∧ W.cell? ⟨g0, 9, none⟩ = some (.int .u64 1) ∧ W.cell? ⟨g0, 10, none⟩ = some (.slice B9 (PM z).L.length d9) ∧ W.cell? ⟨g0, 11, none⟩ = some (.slice B10 (PM z).D.length d10) ∧ W.cell? ⟨g1, 0, none⟩ = some (.bool o1) ∧ W.cell? ⟨g1, 1, none⟩ = some (.bool o2) ∧ W.cell? ⟨g1, 2, none⟩ = some (.bool o4)) (first | exact HC5.out _ HBv.out | exact HC5.out _ HBr.out | exact HC5.out _ (by repeat (first | with_reducible exact Below.refl _ _ | with_reducible assumption | with_reducible apply below_alloc | with_reducible apply pw_below_drewN | with_reducible apply below_drew1)))
    (first
      | (go_at_call 11; refine (HRW.out _ (by repeat (first | with_reducible exact Below.refl _ _ | with_reducible assumption | with_reducible apply below_alloc | with_reducible apply pw_below_drewN | with_reducible apply below_drew1))).mono ?_; rintro e w4 ⟨v4, rfl, hR4, hB4⟩; obtain ⟨A1, c1, rfl, l1, hC1⟩ := Kd.R_reads hR4; have HC1 := Lib.hid hC1; have HBr := Lib.hid (show Below wb.heap.size wb w4 from ((by repeat (first | with_reducible exact Below.refl _ _ | with_reducible assumption | with_reducible apply below_alloc | with_reducible apply pw_below_drewN | with_reducible apply below_drew1)) : Below wb.heap.size wb _).trans (hB4.mono (by simp))); clear hR4 hB4 hC1)
      | (go_at_call 12; refine (HVW.out _ HBr.out).mono ?_; rintro e w5 ⟨v5, rfl, hR5, hB5⟩; obtain ⟨A3, c3, rfl, l3, hC3⟩ := Kd.R_reads hR5; have HC3 := Lib.hid hC3; have HBv := Lib.hid (HBr.out.trans (hB5.mono HBr.out.size)); have HC2 := Lib.hid (Kd.C_below HC1.out hB5); clear hR5 hB5 hC3))
  rw [List.length_map] at HC3
  have hnn : ((xs.length : Int) != (xs.length : Int)) = false := by simp
  go_wp2
  go_loopw [9] (fun i wr => ∃ k : Nat, k ≤ xs.length ∧ i = .int .i64 k ∧ Hid (Below w5.heap.size w5 wr)) (fun i _ => xs.length - (intOf i).toNat)
  case atStart => exact ⟨0, Nat.zero_le _, rfl, Lib.hid (Below.refl _ _)⟩
  case round =>
    obtain ⟨k, hk, rfl, HR⟩ := hrel
    by_cases hlt : k < xs.length
    · obtain ⟨ad, hA, hx0, hx1, hx2, hx3, hx4⟩ := at_Row HC2.out k hlt hlt
      subst hA
      obtain ⟨bd, A0, c0, hB, hy, l0, hS⟩ := at_Strs HC3.out k (by rw [List.length_map]; exact hlt) hlt
      subst hB
      have hrow : (xs.map (viewRow (PM z).wide))[k]'(by rw [List.length_map]; exact hlt) = viewRow (PM z).wide xs[k] := List.getElem_map _
      rw [hrow] at hy hS
      have hr0 := HBD.out xs[k] (List.getElem_mem hlt)
      obtain ⟨r, hre⟩ : ∃ r, r = xs[k] := ⟨_, rfl⟩
      rw [← hre] at hx0 hx1 hx2 hx3 hx4 hr0 hy hS
      clear hre hrow
      obtain ⟨b, t, hvl, hvs, hvb⟩ := valR_spec (PM z).wide r hr0.1 hr0.2
      obtain ⟨a0, hA0, h0⟩ := at_Str hS 0 (show 0 < 3 by decide) (show 0 < 3 by decide)
      subst hA0
      obtain ⟨a1, hA1, h1⟩ := at_Str hS 1 (show 1 < 3 by decide) (show 1 < 3 by decide)
      injection hA1 with hA1
      subst hA1
      obtain ⟨a2, hA2, h2⟩ := at_Str hS 2 (show 2 < 3 by decide) (show 2 < 3 by decide)
      injection hA2 with hA2
      subst hA2
      have hy' : w5.cell? (bd.add k) = some (.slice (some a0) 3 c0) := hy
      have h0' : w5.cell? a0 = some (.string ⟨(b :: t).toArray⟩) := by rw [← hvl]; exact h0
      have h1' : w5.cell? ⟨a0.block, a0.off + 1, none⟩ = some (.string r.f2) := h1
      have h2' : w5.cell? ⟨a0.block, a0.off + 2, none⟩ = some (.string r.f3) := h2
      have HS12 := Lib.hid (show ∀ W, Below w5.heap.size w5 W → W.cell? ⟨(ad.add (k * 5)).block, (ad.add (k * 5)).off + 2, none⟩ = some (.string r.f2) ∧ W.cell? ⟨(ad.add (k * 5)).block, (ad.add (k * 5)).off + 3, none⟩ = some (.string r.f3) ∧ W.cell? (bd.add k) = some (.slice (some a0) 3 c0) ∧ W.cell? a0 = some (.string ⟨(b :: t).toArray⟩) ∧ W.cell? ⟨a0.block, a0.off + 1, none⟩ = some (.string r.f2) ∧ W.cell? ⟨a0.block, a0.off + 2, none⟩ = some (.string r.f3) ∧ W.cell? ⟨g0, 0, none⟩ = some (.bool (flagB z.f0 1)) ∧ W.cell? ⟨g0, 1, none⟩ = some (.bool (flagB z.f0 2)) from fun W hb => ⟨(hb.cell (World.block_lt_of_cell? w5 _ hx2)).trans hx2, (hb.cell (World.block_lt_of_cell? w5 _ hx3)).trans hx3, (hb.cell (World.block_lt_of_cell? w5 _ hy')).trans hy', (hb.cell (World.block_lt_of_cell? w5 _ h0')).trans h0', (hb.cell (World.block_lt_of_cell? w5 _ h1')).trans h1', (hb.cell (World.block_lt_of_cell? w5 _ h2')).trans h2', blk_cell (blk_below HM5.out.1 (HBv.out.trans (hb.mono HBv.out.size))) 0, blk_cell (blk_below HM5.out.1 (HBv.out.trans (hb.mono HBv.out.size))) 1⟩)
      clear hx0 hx1 hx2 hx3 hx4 hy hy' h0 h0' h1 h1' h2 h2' hS l0 hr0 hvl
      obtain ⟨hc2, hc3, hcy, hca, hcb, hcc, hf0, hf1⟩ := HS12.out wr HR.out
      have kw : IntKind.i64.wrap ((k : Int) + 1) = ((k + 1 : Nat) : Int) := by rw [IntKind.wrap_i64]; have := HLN.out; omega
      have km : (k : Int) < (xs.length : Int) := by omega
      have km0 : (0 : Int) ≤ (k : Int) := by omega
      have HLT := Lib.hid hlt
      obtain ⟨p, hp⟩ : ∃ p, p = (r.f2.toList == ([85] : List UInt8)) := ⟨_, rfl⟩
      obtain ⟨q, hq⟩ : ∃ q, q = (r.f2.toList == ([119] : List UInt8)) := ⟨_, rfl⟩
      obtain ⟨un, hun⟩ : ∃ un, un = undB r.f2 := ⟨_, rfl⟩
      rw [← hun] at hvb
      have HUN := Lib.hid (show (p || q) = un by rw [hp, hq, hun]; rfl)
      replace hp := hp.symm
      replace hq := hq.symm
      clear hun
      go_upto_region 11 with (fail)
      go_cut [10] from 43 to 56 (fun s10 wx => s10 = .bool un ∧ wx = wr)
      case first =>
        cases p <;> cases q
        all_goals (
          go_wp2
          go_meet
          exact ⟨by rw [← HUN.out]; rfl, rfl⟩)
      case rest =>
        obtain ⟨rfl, rfl⟩ := hcut
        clear hc2 hc3 hcy hca hcb hcc hf0 hf1 hp hq
        have HWD := Lib.hid (fun W => word_any (flagB z.f0 1) (flagB z.f0 2) W)
        obtain ⟨wd, hwd⟩ : ∃ wd, wd = wordR (flagB z.f0 2) := ⟨_, rfl⟩
        have hwd1 : 0 ≤ wd ∧ wd ≤ 8 := by rw [hwd]; unfold wordR; split <;> omega
        replace hvs : (((b :: t).length : Nat) : Int) = 2 * wd := by rw [hwd]; exact hvs
        rw [← hwd] at HWD
        rw [List.length_cons] at hvs
        have ww : IntKind.i64.wrap (2 * wd) = 2 * wd := by rw [IntKind.wrap_i64]; omega
        have hs1 : (((t.length + 1 : Nat) : Int) != 2 * wd) = false := by rw [hvs]; simp
        have hs2 : (((t.length : Int) + 1) != 2 * wd) = false := by rw [← hvs]; simp
        have hn2 : (r.f2.toList != r.f2.toList) = false := by simp
        have hn3 : (r.f3.toList != r.f3.toList) = false := by simp
        have hn4 : (un != un) = false := by simp
        have ix := str_first b t
        clear hwd hwd1 hvs
        go_upto_region 12 with (fail)
        go_region_held3 (fun W => W.cell? ⟨(ad.add (k * 5)).block, (ad.add (k * 5)).off + 2, none⟩ = some (.string r.f2) ∧ W.cell? ⟨(ad.add (k * 5)).block, (ad.add (k * 5)).off + 3, none⟩ = some (.string r.f3) ∧ W.cell? (bd.add k) = some (.slice (some a0) 3 c0) ∧ W.cell? a0 = some (.string ⟨(b :: t).toArray⟩) ∧ W.cell? ⟨a0.block, a0.off + 1, none⟩ = some (.string r.f2) ∧ W.cell? ⟨a0.block, a0.off + 2, none⟩ = some (.string r.f3) ∧ W.cell? ⟨g0, 0, none⟩ = some (.bool (flagB z.f0 1)) ∧ W.cell? ⟨g0, 1, none⟩ = some (.bool (flagB z.f0 2))) (first | exact HS12.out _ HB6.out | exact HS12.out _ (HR.out.trans (((by repeat (first | with_reducible exact Below.refl _ _ | with_reducible assumption | with_reducible apply below_alloc | with_reducible apply pw_below_drewN | with_reducible apply below_drew1)) : Below wc.heap.size wc _).mono HR.out.size)))
          (first
            | (go_at_call 13; refine (HWD.out _).mono ?_; rintro e w6 ⟨rfl, hb6⟩; have HB6 := Lib.hid (show Below w5.heap.size w5 w6 from HR.out.trans ((((by repeat (first | with_reducible exact Below.refl _ _ | with_reducible assumption | with_reducible apply below_alloc | with_reducible apply pw_below_drewN | with_reducible apply below_drew1)) : Below wc.heap.size wc _).trans (hb6.mono (by simp))).mono HR.out.size)); clear hb6))
        go_wp2
        exact ⟨⟨k + 1, HLT.out, rfl, HB6⟩, by have := HLT.out; simp only [intOf]; omega⟩
    · have hke : k = xs.length := by omega
      subst hke
      go_wp2
      go_ret
      exact ⟨rfl, HBw.out.trans ((HBv.out.trans (HR.out.mono HBv.out.size)).mono HBw.out.size)⟩
end Go.Proofs.YtkbamfiokhmpjaaDoor

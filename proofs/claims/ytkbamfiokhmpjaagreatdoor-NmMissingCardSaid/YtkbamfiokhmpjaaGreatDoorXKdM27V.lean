/- Contracts over this translation: is a symbol told? -/
import Derived.Test.YtkbamfiokhmpjaaGreatDoorXKdM27L
import Derived.Test.YtkbamfiokhmpjaaGreatDoorXKdM27S
import Derived.Test.YtkbamfiokhmpjaaGreatDoorHexA
namespace Go.Proofs.YtkbamfiokhmpjaaGreatDoor
set_option linter.unusedVariables false
set_option linter.unusedSimpArgs false
open Go.RowKit Go.Proofs.YtkbamfiokhmpjaaGreatDoorX.Kd Go.Proofs.YtkbamfiokhmpjaaGreatDoorW.PrintWords Go.Proofs.YtkbamfiokhmpjaaGreatDoorW.PrintLast Go.Proofs.YtkbamfiokhmpjaaGreatDoorW.PrintMore

def undB (l : ByteArray) : Bool := l.toList == [85] || l.toList == [119]
/-- Is a symbol told, by some options? -/
def optB (d u x : Bool) (s : S81) (l : ByteArray) : Bool :=
  (!s.f0.toList.isEmpty) && (!d || !undB l) && (!u || undB l) && (!x || (bindR s != 0))
theorem bindR_f (s : S81) : nm_bind.f s.f0 s.f1 s.f2 s.f3 s.f4 s.f5 s.f6 = some (bindR s) := by
  first | rfl | (unfold nm_bind.f symrec_Symbol_Bind.f bindR; rfl) | (simp [nm_bind.f, symrec_Symbol_Bind.f, bindR])
set_option maxRecDepth 100000 in
set_option maxHeartbeats 16000000 in
theorem optTold_any (d u x : Bool) (s : S81) (l : ByteArray) (w : World) :
    Calls Tryz.prog 33 #[.agg #[.bool d, .bool u, .bool x], .agg #[.string s.f0, .int .u64 s.f1, .int .u64 s.f2, .int .u64 s.f3, .int .u64 s.f4, .int .u64 s.f5, .bool s.f6], .string l] w fun e w' => e = .returned (.bool (optB d u x s l)) ∧ Below w.heap.size w w' := by
  have HBD := Lib.hid (fun W => nm_bind.calls s.f0 s.f1 s.f2 s.f3 s.f4 s.f5 s.f6 (bindR s) W (bindR_f s))
  unfold optB undB
  obtain ⟨b, hb⟩ : ∃ b, b = bindR s := ⟨_, rfl⟩
  rw [← hb] at HBD ⊢
  clear hb
  obtain ⟨bz, hbz⟩ : ∃ z, z = (b != 0) := ⟨_, rfl⟩
  have hbz1 : (b != 0) = bz := hbz.symm
  obtain ⟨p, hp⟩ : ∃ z, z = (l.toList == ([85] : List UInt8)) := ⟨_, rfl⟩
  obtain ⟨q, hq⟩ : ∃ z, z = (l.toList == ([119] : List UInt8)) := ⟨_, rfl⟩
  obtain ⟨n, hn⟩ : ∃ z, z = s.f0.toList.isEmpty := ⟨_, rfl⟩
  rw [← hbz, ← hp, ← hq, ← hn]
  replace hp := hp.symm
  replace hq := hq.symm
  replace hn := hn.symm
  clear hbz
  obtain ⟨n0, f1, f2, f3, f4, f5, f6⟩ := s
  simp only at hn HBD ⊢
  cases p <;> cases q <;> cases n <;> cases d <;> cases u <;> cases x
  all_goals (
    go_enter Tryz.func33, Tryz.ntmps33
    go_wp2_with (first | (go_at_call 16; refine (HBD.out _).mono ?_; rintro e w4 ⟨rfl, hb4⟩))
    go_ret
    exact ⟨by first | rfl | (cases bz <;> rfl), by first | exact below_alloc (below_alloc (Below.refl _ _) _) _ | exact (below_alloc (below_alloc (Below.refl _ _) _) _).trans (hb4.mono (below_alloc (below_alloc (Below.refl w.heap.size w) _) _).size)⟩)
end Go.Proofs.YtkbamfiokhmpjaaGreatDoor

/- Contracts over this translation: rows of symbols, in plain words. -/
namespace Go.Proofs.YtkbamfiokhmpjaaGreatDoor
set_option linter.unusedVariables false
set_option linter.unusedSimpArgs false
open Go.RowKit Go.Proofs.YtkbamfiokhmpjaaGreatDoorX.Kd Go.Proofs.YtkbamfiokhmpjaaGreatDoorW.PrintWords Go.Proofs.YtkbamfiokhmpjaaGreatDoorW.PrintLast Go.Proofs.YtkbamfiokhmpjaaGreatDoorW.PrintMore

def rowOf (LL : List S80) (s : S81) (i : Nat) : S95 := ⟨s.f3, s.f4, letB LL s, s.f0, (i : Int)⟩
/-- The rows of some symbols, not sorted yet. -/
def rowsS (LL : List S80) (d u x : Bool) (l : List S81) : List S95 :=
  l.zipIdx.filterMap fun p => if optB d u x p.1 (letB LL p.1) = true then some (rowOf LL p.1 p.2) else none
def symsC (c : S80) : List S81 := if c.f1 = 2 then c.f10.drop 1 else []
def symsL (L : List S80) : List S81 := L.flatMap symsC
theorem symsL_succ (L : List S80) (k : Nat) (h : k < L.length) : symsL (L.take (k + 1)) = symsL (L.take k) ++ symsC L[k] := by
  unfold symsL
  rw [List.take_succ_eq_append_getElem h, List.flatMap_append, List.flatMap_singleton]
theorem rowsS_nil (LL : List S80) (d u x : Bool) : rowsS LL d u x [] = [] := rfl
theorem rowsS_snoc (LL : List S80) (d u x : Bool) (l : List S81) (s : S81) :
    rowsS LL d u x (l ++ [s]) = rowsS LL d u x l ++ (if optB d u x s (letB LL s) = true then [rowOf LL s l.length] else []) := by
  unfold rowsS
  rw [List.zipIdx_append, List.filterMap_append]
  congr 1
  simp only [List.zipIdx_singleton, Nat.zero_add, List.filterMap_cons, List.filterMap_nil]
  by_cases h : optB d u x s (letB LL s) = true
  · simp only [if_pos h]
  · simp only [if_neg h]
theorem rowsS_len (LL : List S80) (d u x : Bool) (l : List S81) : (rowsS LL d u x l).length ≤ l.length := by
  unfold rowsS
  exact Nat.le_trans (List.length_filterMap_le _ _) (by rw [List.length_zipIdx]; exact Nat.le_refl _)
theorem rowsS_tags (LL : List S80) (d u x : Bool) (l : List S81) :
    (rowsS LL d u x l).Pairwise (fun a b => a.f4.toNat < b.f4.toNat) ∧ ∀ r ∈ rowsS LL d u x l, r.f4.toNat < l.length := by
  have H : ∀ (n : Nat) (l : List S81), l.length = n → (rowsS LL d u x l).Pairwise (fun a b => a.f4.toNat < b.f4.toNat) ∧ ∀ r ∈ rowsS LL d u x l, r.f4.toNat < l.length := by
    intro n
    induction n with
    | zero =>
      intro l hl
      have : l = [] := List.length_eq_zero_iff.1 hl
      subst this
      exact ⟨List.Pairwise.nil, fun r hr => by cases hr⟩
    | succ n ih =>
      intro l hl
      have hne : l ≠ [] := fun h => by rw [h] at hl; cases hl
      have hd := List.dropLast_concat_getLast hne
      obtain ⟨l0, s, rfl⟩ : ∃ l0 s, l = l0 ++ [s] := ⟨_, _, hd.symm⟩
      have hl0 : l0.length = n := by simpa using hl
      obtain ⟨h1, h2⟩ := ih l0 hl0
      rw [rowsS_snoc]
      have hle : (l0 ++ [s]).length = l0.length + 1 := by simp
      by_cases h : optB d u x s (letB LL s) = true
      · rw [if_pos h]
        refine ⟨List.pairwise_append.2 ⟨h1, List.pairwise_singleton _ _, fun a ha b hb => ?_⟩, fun r hr => ?_⟩
        · rw [List.mem_singleton] at hb
          subst hb
          exact h2 a ha
        · rw [hle]
          rcases List.mem_append.1 hr with hr | hr
          · exact Nat.lt_succ_of_lt (h2 r hr)
          · rw [List.mem_singleton] at hr
            subst hr
            exact Nat.lt_succ_self _
      · rw [if_neg h, List.append_nil]
        exact ⟨h1, fun r hr => by rw [hle]; exact Nat.lt_succ_of_lt (h2 r hr)⟩
  exact H _ l rfl
end Go.Proofs.YtkbamfiokhmpjaaGreatDoor

/- The walk of nm.Rows. -/
namespace Go.Proofs.YtkbamfiokhmpjaaGreatDoor
set_option linter.unusedVariables false
set_option linter.unusedSimpArgs false
open Go.RowKit Go.Proofs.YtkbamfiokhmpjaaGreatDoorX.Kd Go.Proofs.YtkbamfiokhmpjaaGreatDoorW.PrintWords Go.Proofs.YtkbamfiokhmpjaaGreatDoorW.PrintLast Go.Proofs.YtkbamfiokhmpjaaGreatDoorW.PrintMore

theorem symsL_take_le (L : List S80) (k : Nat) : (symsL (L.take k)).length ≤ (symsL L).length := by
  have h : symsL L = symsL (L.take k) ++ symsL (L.drop k) := by unfold symsL; rw [← List.flatMap_append, List.take_append_drop]
  rw [h, List.length_append]; omega
theorem infoRow : (Tryz.prog.info? 95).map (fun i => (i.zero, i.size, i.bytes)) = some (some (.agg #[.int .u64 0, .int .u64 0, .string ⟨#[]⟩, .string ⟨#[]⟩, .int .i64 0]), 5, 56) := by kernel_rfl
/-- What holds in the loops of Rows: v has the rows. -/
def RSt (w wr : World) (MC OC : Array Value) (v : Value) (l : List S95) : Prop :=
  wr.heap[w.heap.size]? = some (.cells MC 48 (0, 0)) ∧ wr.heap[w.heap.size + 1]? = some (.cells OC 66 (0, 0)) ∧
  Kd.R k95 95 wr w.heap.size (fun _ => True) v l ∧ Below w.heap.size w wr
theorem RSt.below {w wx wy : World} {MC OC : Array Value} {v : Value} {l : List S95} (h : RSt w wx MC OC v l) (hb : Below wx.heap.size wx wy) : RSt w wy MC OC v l :=
  ⟨blk_below h.1 hb, blk_below h.2.1 hb, Kd.R_below h.2.2.1 hb, h.2.2.2.trans (hb.mono h.2.2.2.size)⟩
set_option maxRecDepth 100000 in
set_option maxHeartbeats 16000000 in
theorem rows_any (a : MdD) (hL : a.L.length ≤ 1000) (hN : (symsL a.L).length < 20) (A9 A10 : Option Addr) (c9 c10 : Nat) (l9 : a.L.length ≤ c9) (l10 : a.D.length ≤ c10) (d u x : Bool) (h5 : ∀ c ∈ a.L, c.f10.length ≤ 1000 ∧ ∀ s ∈ c.f10, 0 ≤ s.f5) (w : World) (hA9 : Kd.C k80 w A9 a.L.length a.L) (hA10 : Kd.C k83 w A10 a.D.length a.D) :
    Calls Tryz.prog 21 #[.agg #[.bool a.big, .bool a.wide, .int .u8 a.abi, .int .u8 a.ver, .string a.pad, .int .u64 a.ty, .int .u64 a.mc, .int .u64 a.en, .int .u64 a.fg, .int .u64 a.nm, .slice A9 a.L.length c9, .slice A10 a.D.length c10], .agg #[.bool d, .bool u, .bool x]] w fun e w' => ∃ v, e = .returned v ∧ Kd.R k95 95 w' w.heap.size (fun _ => True) v (sortRows (rowsS a.L d u x (symsL a.L))) ∧ Below w.heap.size w w' := by
  have HLE := Lib.hid (fun (s : S81) (h : 0 ≤ s.f5) W (hb : Below w.heap.size w W) => letter_any a hL A9 A10 c9 c10 l9 l10 s h W (Kd.C_below hA9 hb) (Kd.C_below hA10 hb))
  have HC := Lib.hid hA9
  have HN := Lib.hid hN
  have HF := Lib.hid h5
  have hblk : ∀ (A B : Obj), (((w.alloc A).alloc B).heap[w.heap.size]? = some A ∧ ((w.alloc A).alloc B).heap[w.heap.size + 1]? = some B) := fun A B => ⟨blk_below (blk_new w A) ((Below.refl _ _).alloc (Nat.le_refl _) _), by have h := blk_new (w.alloc A) B; rw [World.size_alloc] at h; exact h⟩
  have HBK := Lib.hid hblk
  clear hblk hA9 hA10 hN h5
  go_enter Tryz.func21, Tryz.ntmps21
  go_wp2
  go_loopw [5, 6, 15] (fun v n i wr => ∃ k : Nat, k ≤ a.L.length ∧ i = .int .i64 k ∧ n = .int .i64 (symsL (a.L.take k)).length ∧ Hid (RSt w wr #[.bool a.big, .bool a.wide, .int .u8 a.abi, .int .u8 a.ver, .string a.pad, .int .u64 a.ty, .int .u64 a.mc, .int .u64 a.en, .int .u64 a.fg, .int .u64 a.nm, .slice A9 a.L.length c9, .slice A10 a.D.length c10] #[.bool d, .bool u, .bool x] v (rowsS a.L d u x (symsL (a.L.take k))))) (fun _ _ i _ => a.L.length - (intOf i).toNat)
  case atStart => exact ⟨0, Nat.zero_le _, rfl, rfl, Lib.hid ⟨(HBK.out _ _).1, (HBK.out _ _).2, Kd.R_nil _ _ _ _ _, below_alloc (below_alloc (Below.refl _ _) _) _⟩⟩
  case round =>
    obtain ⟨k, hk, rfl, rfl, HR⟩ := hrel
    by_cases hlt : k < a.L.length
    · obtain ⟨ad, B10, e10, B11, e11, B12, e12, hA, hx0, hx1, hx2, hx3, hx4, hx5, hx6, hx7, hx8, hx9, hx10, hx11, hx12, le10, hi10, _⟩ := at_T80 HC.out (k : Int) (by omega) (by omega)
      subst hA
      have hB := HR.out.2.2.2
      replace hx0 := (hB.cell (World.block_lt_of_cell? w _ hx0)).trans hx0
      replace hx1 := (hB.cell (World.block_lt_of_cell? w _ hx1)).trans hx1
      replace hx2 := (hB.cell (World.block_lt_of_cell? w _ hx2)).trans hx2
      replace hx3 := (hB.cell (World.block_lt_of_cell? w _ hx3)).trans hx3
      replace hx4 := (hB.cell (World.block_lt_of_cell? w _ hx4)).trans hx4
      replace hx5 := (hB.cell (World.block_lt_of_cell? w _ hx5)).trans hx5
      replace hx6 := (hB.cell (World.block_lt_of_cell? w _ hx6)).trans hx6
      replace hx7 := (hB.cell (World.block_lt_of_cell? w _ hx7)).trans hx7
      replace hx8 := (hB.cell (World.block_lt_of_cell? w _ hx8)).trans hx8
      replace hx9 := (hB.cell (World.block_lt_of_cell? w _ hx9)).trans hx9
      replace hx10 := (hB.cell (World.block_lt_of_cell? w _ hx10)).trans hx10
      replace hx11 := (hB.cell (World.block_lt_of_cell? w _ hx11)).trans hx11
      replace hx12 := (hB.cell (World.block_lt_of_cell? w _ hx12)).trans hx12
      rw [Int.toNat_natCast] at hx0 hx1 hx2 hx3 hx4 hx5 hx6 hx7 hx8 hx9 hx10 hx11 hx12
      have HX := Lib.hid (show rd_T80 a.L (k : Int) = a.L[k] by unfold rd_T80; rw [Int.toNat_natCast]; simp [List.getD, hlt])
      obtain ⟨c, hce⟩ : ∃ c, c = rd_T80 a.L (k : Int) := ⟨_, rfl⟩
      rw [← hce] at HX hx0 hx1 hx2 hx3 hx4 hx5 hx6 hx7 hx8 hx9 hx10 hx11 hx12 le10 hi10
      clear hce hB
      have HSL := Lib.hid (symsL_succ a.L k hlt)
      have HFC := Lib.hid (HF.out a.L[k] (List.getElem_mem hlt))
      rw [← HX.out] at HSL HFC
      have HI10 := Lib.hid hi10
      have HK := Lib.hid hlt
      clear hi10
      have hm9 := (blk_cell HR.out.1 9).trans rfl
      have km : (k : Int) < (a.L.length : Int) := by omega
      have km0 : (0 : Int) ≤ (k : Int) := by omega
      have kw : IntKind.i64.wrap ((k : Int) + 1) = ((k + 1 : Nat) : Int) := by rw [IntKind.wrap_i64]; omega
      by_cases h2 : c.f1 = 2
      · have h2b : (c.f1 != 2) = false := bne_eq_false_iff_eq.2 h2
        by_cases h10 : c.f10.length = 0
        · have h10b : ((c.f10.length : Int) == 0) = true := beq_iff_eq.2 (by omega)
          have HS0 := Lib.hid (show symsC c = [] by unfold symsC; rw [if_pos h2, List.length_eq_zero_iff.1 h10]; rfl)
          clear h2 h10
          go_wp2
          exact ⟨⟨k + 1, HK.out, rfl, by rw [HSL.out, HS0.out, List.append_nil], Lib.hid (by rw [HSL.out, HS0.out, List.append_nil]; exact HR.out.below (below_alloc (Below.refl _ _) _))⟩, by have := HK.out; simp only [intOf]; omega⟩
        · have h10b : ((c.f10.length : Int) == 0) = false := beq_eq_false_iff_ne.2 (by omega)
          have HS0 := Lib.hid (show symsC c = c.f10.drop 1 by unfold symsC; rw [if_pos h2])
          have h10c : (1 : Int) ≤ (c.f10.length : Int) := by omega
          have h10d : (c.f10.length : Int) ≤ (e10 : Int) := by omega
          have h10e := eq_true h10c
          have HDr := Lib.hid (Kd.C_drop (m := 1) HI10.out (by omega) le10)
          clear h2 h10 h10c
          go_upto_region 7 with (fail)
          go_cut [30, 31, 32] (fun s30 s31 s32 wx => ∃ (A' : Option Addr) (c' : Nat), s30 = .slice A' (c.f10.drop 1).length c' ∧ s31 = .int .i64 ((c.f10.drop 1).length : Nat) ∧ s32 = .int .i64 0 ∧ Hid (Kd.C k81 w A' (c.f10.drop 1).length (c.f10.drop 1)) ∧ Hid (RSt w wx #[.bool a.big, .bool a.wide, .int .u8 a.abi, .int .u8 a.ver, .string a.pad, .int .u64 a.ty, .int .u64 a.mc, .int .u64 a.en, .int .u64 a.fg, .int .u64 a.nm, .slice (some ad) a.L.length c9, .slice A10 a.D.length c10] #[.bool d, .bool u, .bool x] u5 (rowsS a.L d u x (symsL (a.L.take k)))))
          case first =>
            go_wp2
            all_goals go_meet
            case rel => exact ⟨B10, 0, by rw [List.length_drop], by rw [List.length_drop], rfl, Lib.hid (by have h := HDr.out; rwa [if_pos (by first | assumption | simp_all)] at h), Lib.hid (HR.out.below (below_alloc (Below.refl _ _) _))⟩
            case rel => exact ⟨_, _, by rw [List.length_drop], by rw [List.length_drop], rfl, Lib.hid (by have h := HDr.out; rw [if_neg (by first | assumption | (intro hh; simp_all))] at h; exact h), Lib.hid (HR.out.below (below_alloc (Below.refl _ _) _))⟩
          case rest =>
            obtain ⟨A', c', rfl, rfl, rfl, HI1, HR1⟩ := hcut
            obtain ⟨ys, hys⟩ : ∃ ys, ys = c.f10.drop 1 := ⟨_, rfl⟩
            have HF1 := Lib.hid (show ∀ s ∈ ys, 0 ≤ s.f5 from fun s hs => (HFC.out).2 s (List.drop_subset 1 c.f10 (by rw [← hys]; exact hs)))
            rw [← hys] at HS0 HI1 ⊢
            have HBN := Lib.hid (show (symsL (a.L.take k)).length + ys.length < 20 by have h := symsL_take_le a.L (k + 1); rw [HSL.out, HS0.out, List.length_append] at h; exact Nat.lt_of_le_of_lt h HN.out)
            clear hys HDr HI10
            go_wp2
            go_loopw [5, 6, 32] (fun v n i wx => ∃ j : Nat, j ≤ ys.length ∧ i = .int .i64 j ∧ n = .int .i64 ((symsL (a.L.take k)).length + j : Nat) ∧ Hid (RSt w wx #[.bool a.big, .bool a.wide, .int .u8 a.abi, .int .u8 a.ver, .string a.pad, .int .u64 a.ty, .int .u64 a.mc, .int .u64 a.en, .int .u64 a.fg, .int .u64 a.nm, .slice (some ad) a.L.length c9, .slice A10 a.D.length c10] #[.bool d, .bool u, .bool x] v (rowsS a.L d u x (symsL (a.L.take k) ++ ys.take j)))) (fun _ _ i _ => ys.length - (intOf i).toNat)
            case atStart => exact ⟨0, Nat.zero_le _, rfl, rfl, by rw [List.take_zero, List.append_nil]; exact HR1⟩
            case round =>
              obtain ⟨j, hj, rfl, rfl, HRj⟩ := hrel
              by_cases hlj : j < ys.length
              · obtain ⟨m, hmm⟩ : ∃ m, m = (symsL (a.L.take k)).length + j := ⟨_, rfl⟩
                rw [← hmm]
                have HMM := Lib.hid hmm
                clear hmm
                obtain ⟨ad1, hA1, hy0, hy1, hy2, hy3, hy4, hy5, hy6⟩ := at_T81 HI1.out (j : Int) (by omega) (by omega)
                subst hA1
                have hB := HRj.out.2.2.2
                replace hy0 := (hB.cell (World.block_lt_of_cell? w _ hy0)).trans hy0
                replace hy1 := (hB.cell (World.block_lt_of_cell? w _ hy1)).trans hy1
                replace hy2 := (hB.cell (World.block_lt_of_cell? w _ hy2)).trans hy2
                replace hy3 := (hB.cell (World.block_lt_of_cell? w _ hy3)).trans hy3
                replace hy4 := (hB.cell (World.block_lt_of_cell? w _ hy4)).trans hy4
                replace hy5 := (hB.cell (World.block_lt_of_cell? w _ hy5)).trans hy5
                replace hy6 := (hB.cell (World.block_lt_of_cell? w _ hy6)).trans hy6
                rw [Int.toNat_natCast] at hy0 hy1 hy2 hy3 hy4 hy5 hy6
                have HY := Lib.hid (show rd_T81 ys (j : Int) = ys[j] by unfold rd_T81; rw [Int.toNat_natCast]; simp [List.getD, hlj])
                obtain ⟨s, hse⟩ : ∃ s, s = rd_T81 ys (j : Int) := ⟨_, rfl⟩
                rw [← hse] at HY hy0 hy1 hy2 hy3 hy4 hy5 hy6
                clear hse
                have HT := Lib.hid (List.take_succ_eq_append_getElem hlj)
                have hs5 := HF1.out ys[j] (List.getElem_mem hlj)
                rw [← HY.out] at HT hs5
                have HLS := Lib.hid (HLE.out s hs5)
                clear hB hs5
                go_upto_region 10 with (fail)
                obtain ⟨wS, hwS⟩ : ∃ wS, wS = wr.alloc (.cells #[.string s.f0, .int .u64 s.f1, .int .u64 s.f2, .int .u64 s.f3, .int .u64 s.f4, .int .u64 s.f5, .bool s.f6] 81) := ⟨_, rfl⟩
                have HRS := Lib.hid (show RSt w wS #[.bool a.big, .bool a.wide, .int .u8 a.abi, .int .u8 a.ver, .string a.pad, .int .u64 a.ty, .int .u64 a.mc, .int .u64 a.en, .int .u64 a.fg, .int .u64 a.nm, .slice (some ad) a.L.length c9, .slice A10 a.D.length c10] #[.bool d, .bool u, .bool x] u5 (rowsS a.L d u x (symsL (a.L.take k) ++ ys.take j)) by rw [hwS]; exact HRj.out.below (below_alloc (Below.refl _ _) _))
                have HSB := Lib.hid (show wS.heap[wr.heap.size]? = some (.cells #[.string s.f0, .int .u64 s.f1, .int .u64 s.f2, .int .u64 s.f3, .int .u64 s.f4, .int .u64 s.f5, .bool s.f6] 81 (0, 0)) by rw [hwS]; exact blk_new wr _)
                rw [← hwS]
                clear hwS HRj hy0 hy1 hy2 hy3 hy4 hy5 hy6 hm9
                go_cut [11] (fun s11 wy => s11 = .string (letB a.L s) ∧ Hid (RSt w wy #[.bool a.big, .bool a.wide, .int .u8 a.abi, .int .u8 a.ver, .string a.pad, .int .u64 a.ty, .int .u64 a.mc, .int .u64 a.en, .int .u64 a.fg, .int .u64 a.nm, .slice (some ad) a.L.length c9, .slice A10 a.D.length c10] #[.bool d, .bool u, .bool x] u5 (rowsS a.L d u x (symsL (a.L.take k) ++ ys.take j))) ∧ Hid (wy.heap[wr.heap.size]? = some (.cells #[.string s.f0, .int .u64 s.f1, .int .u64 s.f2, .int .u64 s.f3, .int .u64 s.f4, .int .u64 s.f5, .bool s.f6] 81 (0, 0))))
                case first =>
                  have hm0 := (blk_cell HRS.out.1 0).trans rfl
                  have hm1 := (blk_cell HRS.out.1 1).trans rfl
                  have hm2 := (blk_cell HRS.out.1 2).trans rfl
                  have hm3 := (blk_cell HRS.out.1 3).trans rfl
                  have hm4 := (blk_cell HRS.out.1 4).trans rfl
                  have hm5 := (blk_cell HRS.out.1 5).trans rfl
                  have hm6 := (blk_cell HRS.out.1 6).trans rfl
                  have hm7 := (blk_cell HRS.out.1 7).trans rfl
                  have hm8 := (blk_cell HRS.out.1 8).trans rfl
                  have hm9 := (blk_cell HRS.out.1 9).trans rfl
                  have hm10 := (blk_cell HRS.out.1 10).trans rfl
                  have hm11 := (blk_cell HRS.out.1 11).trans rfl
                  have hy0 := (blk_cell HSB.out 0).trans rfl
                  have hy1 := (blk_cell HSB.out 1).trans rfl
                  have hy2 := (blk_cell HSB.out 2).trans rfl
                  have hy3 := (blk_cell HSB.out 3).trans rfl
                  have hy4 := (blk_cell HSB.out 4).trans rfl
                  have hy5 := (blk_cell HSB.out 5).trans rfl
                  have hy6 := (blk_cell HSB.out 6).trans rfl
                  have HLW := Lib.hid (HLS.out wS HRS.out.2.2.2)
                  go_wp2_with (first | (go_at_call 32; refine HLW.out.mono ?_; rintro e w4 ⟨rfl, hb4⟩; have HB4 := Lib.hid hb4; clear hb4))
                  go_meet
                  case rel => exact ⟨rfl, Lib.hid (HRS.out.below HB4.out), Lib.hid (blk_below HSB.out HB4.out)⟩
                case rest =>
                  obtain ⟨rfl, HR2, HS2⟩ := hcut
                  clear HRS HSB HLS
                  have HO := Lib.hid (optTold_any d u x s (letB a.L s))
                  obtain ⟨tb, htb⟩ : ∃ tb, tb = optB d u x s (letB a.L s) := ⟨_, rfl⟩
                  obtain ⟨lb, hlb⟩ : ∃ lb, lb = letB a.L s := ⟨_, rfl⟩
                  have HSN := Lib.hid (rowsS_snoc a.L d u x (symsL (a.L.take k) ++ ys.take j) s)
                  rw [← htb] at HO HSN
                  rw [← hlb] at HO ⊢
                  have HLB := Lib.hid hlb
                  clear htb hlb
                  have HLEN := Lib.hid (show (symsL (a.L.take k) ++ ys.take j).length = (symsL (a.L.take k)).length + j by rw [List.length_append, List.length_take, Nat.min_eq_left (Nat.le_of_lt hlj)])
                  have HLJ := Lib.hid hlj
                  have ho0 := (blk_cell HR2.out.2.1 0).trans rfl
                  have ho1 := (blk_cell HR2.out.2.1 1).trans rfl
                  have ho2 := (blk_cell HR2.out.2.1 2).trans rfl
                  have hy0 := (blk_cell HS2.out 0).trans rfl
                  have hy1 := (blk_cell HS2.out 1).trans rfl
                  have hy2 := (blk_cell HS2.out 2).trans rfl
                  have hy3 := (blk_cell HS2.out 3).trans rfl
                  have hy4 := (blk_cell HS2.out 4).trans rfl
                  have hy5 := (blk_cell HS2.out 5).trans rfl
                  have hy6 := (blk_cell HS2.out 6).trans rfl
                  have jw : IntKind.i64.wrap ((j : Int) + 1) = ((j + 1 : Nat) : Int) := by rw [IntKind.wrap_i64]; have := HBN.out; omega
                  have mw : IntKind.i64.wrap ((m : Int) + 1) = ((m + 1 : Nat) : Int) := by rw [IntKind.wrap_i64]; have := HBN.out; have := HMM.out; omega
                  cases tb with
                  | false =>
                    go_wp2_with (first | (go_at_call 33; refine (HO.out _).mono ?_; rintro e w4 ⟨rfl, hb4⟩; have HB4 := Lib.hid hb4; clear hb4))
                    exact ⟨⟨j + 1, HLJ.out, rfl, congrArg (fun t : Nat => Value.int .i64 (t : Int)) (show m + 1 = (symsL (a.L.take k)).length + (j + 1) by have := HMM.out; omega), Lib.hid (by rw [HT.out, ← List.append_assoc, HSN.out, if_neg (by decide), List.append_nil]; exact HR2.out.below HB4.out)⟩, by have := HLJ.out; simp only [intOf]; omega⟩
                  | true =>
                    obtain ⟨XS, hXS⟩ : ∃ XS, XS = rowsS a.L d u x (symsL (a.L.take k) ++ ys.take j) := ⟨_, rfl⟩
                    have hXL : XS.length ≤ 20 := by
                      have h1 := rowsS_len a.L d u x (symsL (a.L.take k) ++ ys.take j)
                      rw [← hXS, HLEN.out] at h1
                      have := HBN.out
                      omega
                    rw [← hXS] at HR2 HSN
                    clear hXS
                    obtain ⟨AX, cX, rfl⟩ := Kd.R_slice HR2.out.2.2.1
                    have HRO := Lib.hid (show rowOf a.L s (symsL (a.L.take k) ++ ys.take j).length = (⟨s.f3, s.f4, lb, s.f0, (m : Int)⟩ : S95) by unfold rowOf; rw [HLEN.out, ← HMM.out, HLB.out])
                    go_wp2_with (first
                      | (go_at_call 33; refine (HO.out _).mono ?_; rintro e w4 ⟨rfl, hb4⟩; have HR4 := Lib.hid (HR2.out.below hb4); have hz := blk_below HS2.out hb4; have hz0 := (blk_cell hz 0).trans rfl; have hz1 := (blk_cell hz 1).trans rfl; have hz2 := (blk_cell hz 2).trans rfl; have hz3 := (blk_cell hz 3).trans rfl; have hz4 := (blk_cell hz 4).trans rfl; have hz5 := (blk_cell hz 5).trans rfl; have hz6 := (blk_cell hz 6).trans rfl; clear hz hb4)
                      | (at_builtin; refine Kd.R_append k95 (w0 := w) w.heap.size rfl (.tmp 43) (.tmp 53) 92 95 _ _ rfl Tryz.underlying92 infoRow rfl (by decide) (by omega) (.slice AX XS.length cX) XS (⟨s.f3, s.f4, lb, s.f0, (m : Int)⟩ : S95) _ (fun _ => True) (fun _ => False) rfl rfl (k95_mkM _ _ _ _) (fun _ h => h.elim) (fun _ _ => trivial) HR4.out.2.2.1 HR4.out.2.2.2 HR4.out.2.2.2.size (by omega) ?_))
                    intro v6 w6 hR6 hB6 hG6 hat6
                    have HS6 := Lib.hid (show RSt w w6 #[.bool a.big, .bool a.wide, .int .u8 a.abi, .int .u8 a.ver, .string a.pad, .int .u64 a.ty, .int .u64 a.mc, .int .u64 a.en, .int .u64 a.fg, .int .u64 a.nm, .slice (some ad) a.L.length c9, .slice A10 a.D.length c10] #[.bool d, .bool u, .bool x] v6 (XS ++ [(⟨s.f3, s.f4, lb, s.f0, (m : Int)⟩ : S95)]) from ⟨blk_grown HR4.out.1 hG6 (Kd.R_ne HR4.out.2.2.1 HR4.out.1 (by decide)), blk_grown HR4.out.2.1 hG6 (Kd.R_ne HR4.out.2.2.1 HR4.out.2.1 (by decide)), hR6, hB6⟩)
                    clear hR6 hB6 hG6 hat6 hz0 hz1 hz2 hz3 hz4 hz5 hz6 ho0 ho1 ho2 hy0 hy1 hy2 hy3 hy4 hy5 hy6
                    go_wp2
                    exact ⟨⟨j + 1, HLJ.out, rfl, congrArg (fun t : Nat => Value.int .i64 (t : Int)) (show m + 1 = (symsL (a.L.take k)).length + (j + 1) by have := HMM.out; omega), Lib.hid (by rw [HT.out, ← List.append_assoc, HSN.out, if_pos (by first | rfl | trivial), HRO.out]; exact HS6.out)⟩, by have := HLJ.out; simp only [intOf]; omega⟩
              · have hje : j = ys.length := by omega
                subst hje
                rw [List.take_length] at HRj
                go_wp2
                exact ⟨⟨k + 1, HK.out, rfl, by rw [HSL.out, HS0.out, List.length_append], Lib.hid (by rw [HSL.out, HS0.out]; exact HRj.out)⟩, by have := HK.out; simp only [intOf]; omega⟩
      · have h2b : (c.f1 != 2) = true := bne_iff_ne.2 h2
        have h2c : (c.f1 == 2) = false := beq_eq_false_iff_ne.2 h2
        have HS0 := Lib.hid (show symsC c = [] by unfold symsC; rw [if_neg h2])
        clear h2
        go_wp2
        exact ⟨⟨k + 1, HK.out, rfl, by rw [HSL.out, HS0.out, List.append_nil], Lib.hid (by rw [HSL.out, HS0.out, List.append_nil]; exact HR.out.below (below_alloc (Below.refl _ _) _))⟩, by have := HK.out; simp only [intOf]; omega⟩
    · have hke : k = a.L.length := by omega
      subst hke
      rw [List.take_length] at HR
      have hN20 : (rowsS a.L d u x (symsL a.L)).length < 20 := Nat.lt_of_le_of_lt (rowsS_len _ _ _ _ _) HN.out
      have HSO := Lib.hid (sortStable_any (rowsS a.L d u x (symsL a.L)) hN20 w.heap.size _ wr HR.out.2.2.1)
      clear hN20
      go_wp2_with (first | (go_at_call 34; refine HSO.out.mono ?_; rintro e w1 ⟨rfl, hR1, hG1⟩; have HR1 := Lib.hid hR1; have HG1 := Lib.hid hG1; clear hR1 hG1))
      go_ret
      exact ⟨_, rfl, HR1.out, HR.out.2.2.2.grown HG1.out HR.out.2.2.2.size (fun k hk => by obtain ⟨inner, ho⟩ := Kd.R_own HR.out.2.2.1; exact own_base ho k hk)⟩
end Go.Proofs.YtkbamfiokhmpjaaGreatDoor

/- The walk of nm.View. -/
namespace Go.Proofs.YtkbamfiokhmpjaaGreatDoor
set_option linter.unusedVariables false
set_option linter.unusedSimpArgs false
open Go.RowKit Go.Proofs.YtkbamfiokhmpjaaGreatDoorX.Kd Go.Proofs.YtkbamfiokhmpjaaGreatDoorW.PrintWords Go.Proofs.YtkbamfiokhmpjaaGreatDoorW.PrintLast Go.Proofs.YtkbamfiokhmpjaaGreatDoorW.PrintMore

theorem rows_perm (LL : List S80) (d u x : Bool) (l : List S81) : (sortRows (rowsS LL d u x l)).Perm (rowsS LL d u x l) ∧ (sortRows (rowsS LL d u x l)).Pairwise RowLt :=
  sortRows_spec _ (fun p q hq hp => (List.pairwise_iff_getElem.1 (rowsS_tags LL d u x l).1) q p (Nat.lt_trans hq hp) hp hq)
theorem rowsS_in {LL : List S80} {d u x : Bool} {l : List S81} {r : S95} (h : r ∈ rowsS LL d u x l) : ∃ s i, l[i]? = some s ∧ r = rowOf LL s i ∧ optB d u x s (letB LL s) = true := by
  unfold rowsS at h
  obtain ⟨⟨s, i⟩, hp, hr⟩ := List.mem_filterMap.1 h
  have hi := List.mem_zipIdx_iff_getElem?.1 hp
  simp only at hr hi
  split at hr
  · rename_i ho
    injection hr with hr
    exact ⟨s, i, hi, hr.symm, ho⟩
  · cases hr
theorem symsL_in {L : List S80} {s : S81} (h : s ∈ symsL L) : ∃ c ∈ L, s ∈ c.f10 := by
  obtain ⟨c, hc, hs⟩ := List.mem_flatMap.1 h
  unfold symsC at hs
  split at hs
  · exact ⟨c, hc, List.drop_subset 1 c.f10 hs⟩
  · cases hs
def wordR (b : Bool) : Int := if b = true then 8 else 4
/-- The value of a row, as a view tells it. -/
def valR (wide : Bool) (r : S95) : ByteArray := if undB r.f2 = true then ⟨(List.replicate (2 * wordR wide).toNat (32 : UInt8)).toArray⟩ else ⟨(hexR r.f0.toNat (2 * wordR wide)).toArray⟩
def viewRow (wide : Bool) (r : S95) : List ByteArray := [valR wide r, r.f2, r.f3]
noncomputable def viewR (a : MdD) (d u x : Bool) : List (List ByteArray) := (sortRows (rowsS a.L d u x (symsL a.L))).map (viewRow a.wide)
abbrev kStrs : Kd (List ByteArray) := Kd.slice 9 Kd.string
theorem R_three (w : World) (base e : Nat) (hb : base ≤ w.heap.size) (x y z : ByteArray) : Kd.string.R e (w.alloc (.cells #[.string x, .string y, .string z] e)) base (fun k => k = w.heap.size) (.slice (some ⟨w.heap.size, 0, none⟩) 3 3) [x, y, z] := by
  refine ⟨fun k hk => by simpa [Value.ownBlock] using hk.symm, [.string x, .string y, .string z], ?_, ?_⟩
  · exact World.ownsRow_lit (base := base) (e := e) (size := 1) _ _ 3 hb (by unfold maxLen; omega) rfl
  · exact Reps.front rfl rfl (Reps.front rfl rfl (Reps.front rfl rfl (Reps.none _ _) rfl) rfl) rfl
theorem infoStrs : (Tryz.prog.info? 36).map (fun i => (i.zero, i.size, i.bytes)) = some (some (.slice none 0 0), 1, 24) := by kernel_rfl
set_option maxRecDepth 100000 in
theorem word_any (b u : Bool) (w : World) : Calls Tryz.prog 20 #[.agg #[.bool b, .bool u]] w fun e w' => e = .returned (.int .i64 (wordR u)) ∧ Below w.heap.size w w' := by
  cases u
  all_goals (
    go_enter Tryz.func20, Tryz.ntmps20
    go_wp2
    go_ret
    exact ⟨rfl, below_alloc (Below.refl _ _) _⟩)
theorem hexI (z : Int) (h0 : 0 ≤ z) (h1 : z < 18446744073709551616) (width : Int) (g0 : 0 ≤ width) (g1 : width ≤ 1000) (w : World) (ht : Tabs w) :
    Calls Tryz.prog 22 #[.int .u64 z, .int .i64 width] w fun e w' => e = .returned (.string ⟨(hexR z.toNat width).toArray⟩) ∧ Below w.heap.size w w' := by
  obtain ⟨n, rfl⟩ := Int.eq_ofNat_of_zero_le h0
  exact hex_any n (by omega) width (by omega) (by omega) w ht
theorem blanks_any (x : Int) (h0 : 0 ≤ x) (h1 : x ≤ 1000) (w : World) : Calls Tryz.prog 23 #[.string ⟨#[32]⟩, .int .i64 x] w fun e w' => e = .returned (.string ⟨(List.replicate x.toNat (32 : UInt8)).toArray⟩) ∧ Below w.heap.size w w' := by
  obtain ⟨n, rfl⟩ := Int.eq_ofNat_of_zero_le h0
  have h := Tryz.strings_Repeat ⟨#[32]⟩ n w (by omega) (by show 1 * n ≤ _; omega)
  have e : Lib.repeatL (⟨#[32]⟩ : ByteArray).data.toList n = List.replicate ((n : Int).toNat) (32 : UInt8) := by
    show Lib.repeatL [32] n = _
    rw [repeat_one]; rfl
  rw [e] at h
  exact h
theorem k95_rowK {w : World} {x : S95} {cs : List Value} (h : k95.K w x cs) : cs = enRow x := k95_open h
instance : Inhabited S95 := inferInstance
theorem at_Row {w : World} {A : Option Addr} {n : Nat} {xs : List S95} (h : Kd.C k95 w A n xs) (k : Nat) (h1 : k < xs.length) (hn : k < n) : ∃ ad, A = some ad ∧ w.cell? (ad.add (k * 5)) = some (.int .u64 xs[k].f0) ∧ w.cell? ⟨(ad.add (k * 5)).block, (ad.add (k * 5)).off + 1, none⟩ = some (.int .u64 xs[k].f1) ∧ w.cell? ⟨(ad.add (k * 5)).block, (ad.add (k * 5)).off + 2, none⟩ = some (.string xs[k].f2) ∧ w.cell? ⟨(ad.add (k * 5)).block, (ad.add (k * 5)).off + 3, none⟩ = some (.string xs[k].f3) ∧ w.cell? ⟨(ad.add (k * 5)).block, (ad.add (k * 5)).off + 4, none⟩ = some (.int .i64 xs[k].f4) := by
  obtain ⟨ad, c, e, _, hK, hc0⟩ := Kd.C_get h (default : S95) (k : Int) (by omega) (by omega)
  rw [Int.toNat_natCast] at hc0 hK
  have hd : xs.getD k default = xs[k] := by simp [List.getD, h1]
  rw [hd] at hK
  have hc : ∀ j u, c[j]? = some u → w.cell? (ad.add (k * 5 + j)) = some u := hc0
  obtain rfl := k95_open hK
  exact ⟨ad, e, hc 0 _ rfl, by rw [← add_field _ _ 1 (by omega)]; exact hc 1 _ rfl, by rw [← add_field _ _ 2 (by omega)]; exact hc 2 _ rfl, by rw [← add_field _ _ 3 (by omega)]; exact hc 3 _ rfl, by rw [← add_field _ _ 4 (by omega)]; exact hc 4 _ rfl⟩
/-- What holds in View's loop: v has the rows. -/
def VSt (w1 wr : World) (v : Value) (l : List (List ByteArray)) : Prop := Kd.R kStrs 36 wr w1.heap.size (fun _ => True) v l ∧ Below w1.heap.size w1 wr
theorem VSt.below {w1 wx wy : World} {v : Value} {l : List (List ByteArray)} (h : VSt w1 wx v l) (hb : Below wx.heap.size wx wy) : VSt w1 wy v l := ⟨Kd.R_below h.1 hb, h.2.trans (hb.mono h.2.size)⟩
set_option maxRecDepth 100000 in
set_option maxHeartbeats 16000000 in
theorem view_any (a : MdD) (hL : a.L.length ≤ 1000) (hN : (symsL a.L).length < 20) (A9 A10 : Option Addr) (c9 c10 : Nat) (l9 : a.L.length ≤ c9) (l10 : a.D.length ≤ c10) (d u x : Bool) (h5 : ∀ c ∈ a.L, c.f10.length ≤ 1000 ∧ ∀ s ∈ c.f10, 0 ≤ s.f5) (h3 : ∀ c ∈ a.L, ∀ s ∈ c.f10, 0 ≤ s.f3 ∧ s.f3 < 18446744073709551616) (w : World) (hA9 : Kd.C k80 w A9 a.L.length a.L) (hA10 : Kd.C k83 w A10 a.D.length a.D) (hT : Tabs w) :
    Calls Tryz.prog 9 #[.agg #[.bool a.big, .bool a.wide, .int .u8 a.abi, .int .u8 a.ver, .string a.pad, .int .u64 a.ty, .int .u64 a.mc, .int .u64 a.en, .int .u64 a.fg, .int .u64 a.nm, .slice A9 a.L.length c9, .slice A10 a.D.length c10], .agg #[.bool d, .bool u, .bool x]] w fun e w' => ∃ v, e = .returned v ∧ Kd.R kStrs 36 w' w.heap.size (fun _ => True) v (viewR a d u x) ∧ Below w.heap.size w w' := by
  have HRW := Lib.hid (fun W (hb : Below w.heap.size w W) => rows_any a hL hN A9 A10 c9 c10 l9 l10 d u x h5 W (Kd.C_below hA9 hb) (Kd.C_below hA10 hb))
  have hbd : ∀ r ∈ sortRows (rowsS a.L d u x (symsL a.L)), 0 ≤ r.f0 ∧ r.f0 < 18446744073709551616 := by
    intro r hr
    obtain ⟨s, i, hs, rfl, _⟩ := rowsS_in ((rows_perm a.L d u x (symsL a.L)).1.mem_iff.1 hr)
    obtain ⟨c, hc, hsc⟩ := symsL_in (List.mem_of_getElem? hs)
    exact h3 c hc s hsc
  have hlen : (sortRows (rowsS a.L d u x (symsL a.L))).length < 20 := by
    rw [(rows_perm a.L d u x (symsL a.L)).1.length_eq]
    exact Nat.lt_of_le_of_lt (rowsS_len _ _ _ _ _) hN
  unfold viewR
  obtain ⟨xs, hxs⟩ : ∃ xs, xs = sortRows (rowsS a.L d u x (symsL a.L)) := ⟨_, rfl⟩
  rw [← hxs] at HRW hbd hlen ⊢
  clear hxs hN h5 h3
  have HBD := Lib.hid hbd
  have HT := Lib.hid hT
  have HLN := Lib.hid hlen
  have hblk : ∀ (A B : Obj), (((w.alloc A).alloc B).heap[w.heap.size]? = some A ∧ ((w.alloc A).alloc B).heap[w.heap.size + 1]? = some B) := fun A B => ⟨blk_below (blk_new w A) ((Below.refl _ _).alloc (Nat.le_refl _) _), by have h := blk_new (w.alloc A) B; rw [World.size_alloc] at h; exact h⟩
  have HBK := Lib.hid hblk
  have HWD := Lib.hid (fun W => word_any a.big a.wide W)
  obtain ⟨wd, hwd⟩ : ∃ wd, wd = wordR a.wide := ⟨_, rfl⟩
  have hwd1 : 0 ≤ wd ∧ wd ≤ 8 := by rw [hwd]; unfold wordR; split <;> omega
  rw [← hwd] at HWD
  have HWE := Lib.hid hwd
  have ww : IntKind.i64.wrap (2 * wd) = 2 * wd := by rw [IntKind.wrap_i64]; omega
  have HW2 := Lib.hid hwd1
  clear hblk hA9 hA10 hT hbd hlen hwd hwd1
  go_enter Tryz.func9, Tryz.ntmps9
  go_wp2_with (first
    | (go_at_call 20; refine (HWD.out _).mono ?_; rintro e w0 ⟨rfl, hb0⟩; have HB0 := Lib.hid (show Below w.heap.size w w0 from (below_alloc (below_alloc (Below.refl w.heap.size w) _) _).trans (hb0.mono (by simp; omega))); have hm := blk_below (HBK.out _ _).1 hb0; have ho := blk_below (HBK.out _ _).2 hb0; have hm0 := (blk_cell hm 0).trans rfl; have hm1 := (blk_cell hm 1).trans rfl; have hm2 := (blk_cell hm 2).trans rfl; have hm3 := (blk_cell hm 3).trans rfl; have hm4 := (blk_cell hm 4).trans rfl; have hm5 := (blk_cell hm 5).trans rfl; have hm6 := (blk_cell hm 6).trans rfl; have hm7 := (blk_cell hm 7).trans rfl; have hm8 := (blk_cell hm 8).trans rfl; have hm9 := (blk_cell hm 9).trans rfl; have hm10 := (blk_cell hm 10).trans rfl; have hm11 := (blk_cell hm 11).trans rfl; have ho0 := (blk_cell ho 0).trans rfl; have ho1 := (blk_cell ho 1).trans rfl; have ho2 := (blk_cell ho 2).trans rfl; clear hm ho hb0)
    | (go_at_call 21; refine (HRW.out _ HB0.out).mono ?_; rintro e w1 ⟨v1, rfl, hR1, hB1⟩; obtain ⟨A1, c1, rfl, l1, hC1⟩ := Kd.R_reads hR1; have HC1 := Lib.hid hC1; have HB1 := Lib.hid (HB0.out.trans (hB1.mono HB0.out.size)); clear hC1 hR1 hB1 hm0 hm1 hm2 hm3 hm4 hm5 hm6 hm7 hm8 hm9 hm10 hm11 ho0 ho1 ho2))
  go_loopw [6, 19] (fun v i wr => ∃ k : Nat, k ≤ xs.length ∧ i = .int .i64 k ∧ Hid (VSt w1 wr v ((xs.take k).map (viewRow a.wide)))) (fun _ i _ => xs.length - (intOf i).toNat)
  case atStart => exact ⟨0, Nat.zero_le _, rfl, Lib.hid ⟨Kd.R_nil _ _ _ _ _, Below.refl _ _⟩⟩
  case round =>
    obtain ⟨k, hk, rfl, HR⟩ := hrel
    by_cases hlt : k < xs.length
    · obtain ⟨ad, hA, hx0, hx1, hx2, hx3, hx4⟩ := at_Row HC1.out k hlt hlt
      subst hA
      have hB := HR.out.2
      replace hx0 := (hB.cell (World.block_lt_of_cell? w1 _ hx0)).trans hx0
      replace hx1 := (hB.cell (World.block_lt_of_cell? w1 _ hx1)).trans hx1
      replace hx2 := (hB.cell (World.block_lt_of_cell? w1 _ hx2)).trans hx2
      replace hx3 := (hB.cell (World.block_lt_of_cell? w1 _ hx3)).trans hx3
      replace hx4 := (hB.cell (World.block_lt_of_cell? w1 _ hx4)).trans hx4
      have hr0 := HBD.out xs[k] (List.getElem_mem hlt)
      have HTK := Lib.hid (show (xs.take (k + 1)).map (viewRow a.wide) = (xs.take k).map (viewRow a.wide) ++ [viewRow a.wide xs[k]] by rw [List.take_succ_eq_append_getElem hlt, List.map_append]; rfl)
      obtain ⟨r, hre⟩ : ∃ r, r = xs[k] := ⟨_, rfl⟩
      rw [← hre] at hx0 hx1 hx2 hx3 hx4 hr0 HTK
      clear hre hB
      have hHX := hexI r.f0 hr0.1 hr0.2 (2 * wd) (by have := HW2.out; omega) (by have := HW2.out; omega)
      have HHX := Lib.hid hHX
      have HLT := Lib.hid hlt
      have kw : IntKind.i64.wrap ((k : Int) + 1) = ((k + 1 : Nat) : Int) := by rw [IntKind.wrap_i64]; have := HLN.out; omega
      have km : (k : Int) < (xs.length : Int) := by omega
      have km0 : (0 : Int) ≤ (k : Int) := by omega
      clear hHX hr0
      go_upto_region 6 with (fail)
      obtain ⟨wX, hwX⟩ : ∃ wX, wX = wr.alloc (.cells #[.int .u64 r.f0, .int .u64 r.f1, .string r.f2, .string r.f3, .int .i64 r.f4] 95) := ⟨_, rfl⟩
      have HRX := Lib.hid (show VSt w1 wX u6 ((xs.take k).map (viewRow a.wide)) by rw [hwX]; exact HR.out.below (below_alloc (Below.refl _ _) _))
      have HX0 := Lib.hid (show wX.heap[wr.heap.size]? = some (.cells #[.int .u64 r.f0, .int .u64 r.f1, .string r.f2, .string r.f3, .int .i64 r.f4] 95 (0, 0)) by rw [hwX]; exact blk_new wr _)
      rw [← hwX]
      clear hwX HR hx0 hx1 hx2 hx3 hx4
      obtain ⟨p, hp⟩ : ∃ z, z = (r.f2.toList == ([85] : List UInt8)) := ⟨_, rfl⟩
      obtain ⟨q, hq⟩ : ∃ z, z = (r.f2.toList == ([119] : List UInt8)) := ⟨_, rfl⟩
      replace hp := hp.symm
      replace hq := hq.symm
      have HVR := Lib.hid (show valR a.wide r = if (p || q) = true then ⟨(List.replicate (2 * wd).toNat (32 : UInt8)).toArray⟩ else ⟨(hexR r.f0.toNat (2 * wd)).toArray⟩ by unfold valR undB; rw [hp, hq, ← HWE.out])
      have HBL := Lib.hid (fun W => blanks_any (2 * wd) (by have := HW2.out; omega) (by have := HW2.out; omega) W)
      have HT2 := Lib.hid ((HT.out.below HB1.out).below HRX.out.2)
      obtain ⟨hx, hhx⟩ : ∃ hx : ByteArray, hx = ⟨(hexR r.f0.toNat (2 * wd)).toArray⟩ := ⟨_, rfl⟩
      obtain ⟨bl, hbl⟩ : ∃ bl : ByteArray, bl = ⟨(List.replicate (2 * wd).toNat (32 : UInt8)).toArray⟩ := ⟨_, rfl⟩
      rw [← hhx] at HHX HVR
      rw [← hbl] at HBL HVR
      clear hhx hbl
      have HVW := Lib.hid (show viewRow a.wide r = [valR a.wide r, r.f2, r.f3] from rfl)
      rw [HVR.out] at HVW
      clear HVR
      obtain ⟨XS, hXS⟩ : ∃ XS, XS = (xs.take k).map (viewRow a.wide) := ⟨_, rfl⟩
      have hXL : XS.length ≤ 20 := by rw [hXS, List.length_map, List.length_take]; have := HLN.out; omega
      rw [← hXS] at HRX HTK
      clear hXS
      obtain ⟨AX, cX, rfl⟩ := Kd.R_slice HRX.out.1
      have hz0 := (blk_cell HX0.out 0).trans rfl
      have hz2 := (blk_cell HX0.out 2).trans rfl
      cases p <;> cases q
      · go_upto_region 9 with (first
          | (go_at_call 22; refine (HHX.out _ HT2.out).mono ?_; rintro e w4 ⟨rfl, hb4⟩; have HS4 := Lib.hid (And.intro (HRX.out.below hb4) (blk_below HX0.out hb4)); have hy2 := (blk_cell HS4.out.2 2).trans rfl; have hy3 := (blk_cell HS4.out.2 3).trans rfl; clear hb4)
          | (go_at_call 23; refine (HBL.out _).mono ?_; rintro e w5 ⟨rfl, hb5⟩; have HS5 := Lib.hid (And.intro (HS4.out.1.below hb5) (blk_below HS4.out.2 hb5)); clear hy2 hy3; have hy2 := (blk_cell HS5.out.2 2).trans rfl; have hy3 := (blk_cell HS5.out.2 3).trans rfl; clear hb5))
        go_wp2_with (first | (at_builtin; refine Kd.R_append kStrs (w0 := w1) w1.heap.size rfl (.tmp 37) (.tmp 44) 63 36 _ _ rfl Tryz.underlying63 infoStrs rfl (by decide) (by omega) (.slice AX XS.length cX) XS [hx, r.f2, r.f3] _ (fun _ => True) (fun k => k = w4.heap.size) rfl (by first | rfl | (rw [World.size_alloc]; rfl) | (simp; done)) ⟨_, rfl, R_three w4 w1.heap.size 9 HS4.out.1.2.size hx r.f2 r.f3⟩ (fun k h => ⟨trivial, fun he => Nat.lt_irrefl w4.heap.size (by rw [h] at he; exact Kd.R_lt HS4.out.1.1 _ he.symm)⟩) (fun _ _ => trivial) (Kd.R_alloc HS4.out.1.1 (.cells #[.string hx, .string r.f2, .string r.f3] 9)) (below_alloc HS4.out.1.2 (.cells #[.string hx, .string r.f2, .string r.f3] 9)) (below_alloc HS4.out.1.2 (.cells #[.string hx, .string r.f2, .string r.f3] 9)).size (by omega) ?_))
        intro v6 w6 hR6 hB6 hG6 hat6
        have HS6 := Lib.hid (show VSt w1 w6 v6 (XS ++ [[hx, r.f2, r.f3]]) from ⟨hR6, hB6⟩)
        clear hR6 hB6 hG6 hat6 hy2 hy3 hz0 hz2
        go_wp2
        go_roundw
        case rel => exact ⟨k + 1, HLT.out, rfl, Lib.hid (by rw [HTK.out, HVW.out]; exact HS6.out)⟩
        case measure => have := HLT.out; simp only [intOf]; omega
      · go_upto_region 9 with (first
          | (go_at_call 22; refine (HHX.out _ HT2.out).mono ?_; rintro e w4 ⟨rfl, hb4⟩; have HS4 := Lib.hid (And.intro (HRX.out.below hb4) (blk_below HX0.out hb4)); have hy2 := (blk_cell HS4.out.2 2).trans rfl; have hy3 := (blk_cell HS4.out.2 3).trans rfl; clear hb4)
          | (go_at_call 23; refine (HBL.out _).mono ?_; rintro e w5 ⟨rfl, hb5⟩; have HS5 := Lib.hid (And.intro (HS4.out.1.below hb5) (blk_below HS4.out.2 hb5)); clear hy2 hy3; have hy2 := (blk_cell HS5.out.2 2).trans rfl; have hy3 := (blk_cell HS5.out.2 3).trans rfl; clear hb5))
        go_wp2_with (first | (at_builtin; refine Kd.R_append kStrs (w0 := w1) w1.heap.size rfl (.tmp 37) (.tmp 44) 63 36 _ _ rfl Tryz.underlying63 infoStrs rfl (by decide) (by omega) (.slice AX XS.length cX) XS [bl, r.f2, r.f3] _ (fun _ => True) (fun k => k = w5.heap.size) rfl (by first | rfl | (rw [World.size_alloc]; rfl) | (simp; done)) ⟨_, rfl, R_three w5 w1.heap.size 9 HS5.out.1.2.size bl r.f2 r.f3⟩ (fun k h => ⟨trivial, fun he => Nat.lt_irrefl w5.heap.size (by rw [h] at he; exact Kd.R_lt HS5.out.1.1 _ he.symm)⟩) (fun _ _ => trivial) (Kd.R_alloc HS5.out.1.1 (.cells #[.string bl, .string r.f2, .string r.f3] 9)) (below_alloc HS5.out.1.2 (.cells #[.string bl, .string r.f2, .string r.f3] 9)) (below_alloc HS5.out.1.2 (.cells #[.string bl, .string r.f2, .string r.f3] 9)).size (by omega) ?_))
        intro v6 w6 hR6 hB6 hG6 hat6
        have HS6 := Lib.hid (show VSt w1 w6 v6 (XS ++ [[bl, r.f2, r.f3]]) from ⟨hR6, hB6⟩)
        clear hR6 hB6 hG6 hat6 hy2 hy3 hz0 hz2
        go_wp2
        go_roundw
        case rel => exact ⟨k + 1, HLT.out, rfl, Lib.hid (by rw [HTK.out, HVW.out]; exact HS6.out)⟩
        case measure => have := HLT.out; simp only [intOf]; omega
      · go_upto_region 9 with (first
          | (go_at_call 22; refine (HHX.out _ HT2.out).mono ?_; rintro e w4 ⟨rfl, hb4⟩; have HS4 := Lib.hid (And.intro (HRX.out.below hb4) (blk_below HX0.out hb4)); have hy2 := (blk_cell HS4.out.2 2).trans rfl; have hy3 := (blk_cell HS4.out.2 3).trans rfl; clear hb4)
          | (go_at_call 23; refine (HBL.out _).mono ?_; rintro e w5 ⟨rfl, hb5⟩; have HS5 := Lib.hid (And.intro (HS4.out.1.below hb5) (blk_below HS4.out.2 hb5)); clear hy2 hy3; have hy2 := (blk_cell HS5.out.2 2).trans rfl; have hy3 := (blk_cell HS5.out.2 3).trans rfl; clear hb5))
        go_wp2_with (first | (at_builtin; refine Kd.R_append kStrs (w0 := w1) w1.heap.size rfl (.tmp 37) (.tmp 44) 63 36 _ _ rfl Tryz.underlying63 infoStrs rfl (by decide) (by omega) (.slice AX XS.length cX) XS [bl, r.f2, r.f3] _ (fun _ => True) (fun k => k = w5.heap.size) rfl (by first | rfl | (rw [World.size_alloc]; rfl) | (simp; done)) ⟨_, rfl, R_three w5 w1.heap.size 9 HS5.out.1.2.size bl r.f2 r.f3⟩ (fun k h => ⟨trivial, fun he => Nat.lt_irrefl w5.heap.size (by rw [h] at he; exact Kd.R_lt HS5.out.1.1 _ he.symm)⟩) (fun _ _ => trivial) (Kd.R_alloc HS5.out.1.1 (.cells #[.string bl, .string r.f2, .string r.f3] 9)) (below_alloc HS5.out.1.2 (.cells #[.string bl, .string r.f2, .string r.f3] 9)) (below_alloc HS5.out.1.2 (.cells #[.string bl, .string r.f2, .string r.f3] 9)).size (by omega) ?_))
        intro v6 w6 hR6 hB6 hG6 hat6
        have HS6 := Lib.hid (show VSt w1 w6 v6 (XS ++ [[bl, r.f2, r.f3]]) from ⟨hR6, hB6⟩)
        clear hR6 hB6 hG6 hat6 hy2 hy3 hz0 hz2
        go_wp2
        go_roundw
        case rel => exact ⟨k + 1, HLT.out, rfl, Lib.hid (by rw [HTK.out, HVW.out]; exact HS6.out)⟩
        case measure => have := HLT.out; simp only [intOf]; omega
      · go_upto_region 9 with (first
          | (go_at_call 22; refine (HHX.out _ HT2.out).mono ?_; rintro e w4 ⟨rfl, hb4⟩; have HS4 := Lib.hid (And.intro (HRX.out.below hb4) (blk_below HX0.out hb4)); have hy2 := (blk_cell HS4.out.2 2).trans rfl; have hy3 := (blk_cell HS4.out.2 3).trans rfl; clear hb4)
          | (go_at_call 23; refine (HBL.out _).mono ?_; rintro e w5 ⟨rfl, hb5⟩; have HS5 := Lib.hid (And.intro (HS4.out.1.below hb5) (blk_below HS4.out.2 hb5)); clear hy2 hy3; have hy2 := (blk_cell HS5.out.2 2).trans rfl; have hy3 := (blk_cell HS5.out.2 3).trans rfl; clear hb5))
        go_wp2_with (first | (at_builtin; refine Kd.R_append kStrs (w0 := w1) w1.heap.size rfl (.tmp 37) (.tmp 44) 63 36 _ _ rfl Tryz.underlying63 infoStrs rfl (by decide) (by omega) (.slice AX XS.length cX) XS [bl, r.f2, r.f3] _ (fun _ => True) (fun k => k = w5.heap.size) rfl (by first | rfl | (rw [World.size_alloc]; rfl) | (simp; done)) ⟨_, rfl, R_three w5 w1.heap.size 9 HS5.out.1.2.size bl r.f2 r.f3⟩ (fun k h => ⟨trivial, fun he => Nat.lt_irrefl w5.heap.size (by rw [h] at he; exact Kd.R_lt HS5.out.1.1 _ he.symm)⟩) (fun _ _ => trivial) (Kd.R_alloc HS5.out.1.1 (.cells #[.string bl, .string r.f2, .string r.f3] 9)) (below_alloc HS5.out.1.2 (.cells #[.string bl, .string r.f2, .string r.f3] 9)) (below_alloc HS5.out.1.2 (.cells #[.string bl, .string r.f2, .string r.f3] 9)).size (by omega) ?_))
        intro v6 w6 hR6 hB6 hG6 hat6
        have HS6 := Lib.hid (show VSt w1 w6 v6 (XS ++ [[bl, r.f2, r.f3]]) from ⟨hR6, hB6⟩)
        clear hR6 hB6 hG6 hat6 hy2 hy3 hz0 hz2
        go_wp2
        go_roundw
        case rel => exact ⟨k + 1, HLT.out, rfl, Lib.hid (by rw [HTK.out, HVW.out]; exact HS6.out)⟩
        case measure => have := HLT.out; simp only [intOf]; omega
    · have hke : k = xs.length := by omega
      subst hke
      rw [List.take_length] at HR
      go_wp2
      go_ret
      exact ⟨_, rfl, Kd.R_lower HR.out.1 HB1.out.size, HB1.out.trans (HR.out.2.mono HB1.out.size)⟩
end Go.Proofs.YtkbamfiokhmpjaaGreatDoor

/- Contracts over this translation: dynrec.Notes, the walk. -/
import Derived.Test.YtcfbdnlbgcoicaaDoorDynF
namespace Go.Proofs.YtcfbdnlbgcoicaaDoor
set_option linter.unusedVariables false
set_option linter.unusedSimpArgs false
open Go.RowKit

theorem Tryd.infoNote : (Tryd.prog.info? 34).map (fun i => (i.zero, i.size, i.bytes)) = some (some (.agg #[.int .u64 0, .string ⟨#[]⟩, .string ⟨#[]⟩]), 3, 40) := by kernel_rfl
/-- A stage: the reader, a block of the call's own, what else stays. -/
structure SN (wr : World) (rb bx : Nat) (T : TypeId) (big : Bool) (l : List UInt8) (W : World) (at_ : Nat) (bad : Bool) (cs : Array Value) : Prop where
  r : RdrAt W rb big l at_ bad
  x : W.heap[bx]? = some (.cells cs T (0, 0))
  g : wr.grownBy W (some rb)
  hx : wr.heap.size ≤ bx
  hr : rb < wr.heap.size
section
variable {wr : World} {rb bx : Nat} {T : TypeId} {big : Bool} {l : List UInt8} {W W' : World} {at_ at' : Nat} {bad bad' : Bool} {cs : Array Value}
theorem SN.below (h : SN wr rb bx T big l W at_ bad cs) (hb : Below W.heap.size W W') : SN wr rb bx T big l W' at_ bad cs :=
  ⟨h.r.below hb, blk_below h.x hb, grownBy_trans h.g (grownBy_below _ hb), h.hx, h.hr⟩
theorem SN.next (h : SN wr rb bx T big l W at_ bad cs) (hr : RdrAt W' rb big l at' bad') (hg : W.grownBy W' (some rb)) : SN wr rb bx T big l W' at' bad' cs :=
  ⟨hr, blk_grown h.x hg (by have := h.hr; have := h.hx; omega), grownBy_trans h.g hg, h.hx, h.hr⟩
theorem SN.set (h : SN wr rb bx T big l W at_ bad cs) (j : Nat) (u : Value) (cs' : Array Value) (hcs : cs.setIfInBounds j u = cs') : SN wr rb bx T big l (W.setCell ⟨bx, j, none⟩ u) at_ bad cs' := by
  have h1 := h.hr
  have h2 := h.hx
  refine ⟨?_, ?_, ?_, h.hx, h.hr⟩
  · unfold RdrAt; rw [Below.heap_setCell _ _ _ _ (by show rb ≠ bx; omega)]; exact h.r
  · rw [← hcs]; simp [World.setCell, Array.getElem?_modify, h.x]
  · refine ⟨h.g.os, h.g.tape, h.g.output, by have := h.g.size; simpa [World.setCell] using this, fun k hk hne => ?_⟩
    rw [Below.heap_setCell _ _ _ _ (by show k ≠ bx; omega)]; exact h.g.block k hk hne
theorem SN.set1 {x y z : Value} (h : SN wr rb bx T big l W at_ bad #[x, y, z]) (u : Value) : SN wr rb bx T big l (W.setCell ⟨bx, 1, none⟩ u) at_ bad #[x, u, z] := h.set 1 u _ rfl
theorem SN.set2 {x y z : Value} (h : SN wr rb bx T big l W at_ bad #[x, y, z]) (u : Value) : SN wr rb bx T big l (W.setCell ⟨bx, 2, none⟩ u) at_ bad #[x, y, u] := h.set 2 u _ rfl
theorem SN.new (hr : RdrAt W rb big l at_ bad) (hg : wr.grownBy W (some rb)) (hlt : rb < wr.heap.size) (cs : Array Value) (T : TypeId) : SN wr rb W.heap.size T big l (W.alloc (.cells cs T)) at_ bad cs :=
  ⟨hr.below ((Below.refl _ _).alloc (Nat.le_refl _) _), heap_at _ _ _ rfl, grownBy_trans hg (grownBy_below _ ((Below.refl _ _).alloc (Nat.le_refl _) _)), hg.size, hlt⟩
end

set_option maxHeartbeats 16000000 in
theorem notes_own (big wide : Bool) (l : List UInt8) (hl : l.length ≤ 100000) (w : World) :
    Calls Tryd.prog 11 #[.agg #[.bool big, .bool wide], .string ⟨l.toArray⟩] w (NotesPostO w (noteR big (l.length + 1) l)) := by
  obtain ⟨i0, hi, hz0, hz1, hz2⟩ := info_parts Tryd.infoNote
  have HI := Lib.hid (And.intro hi (And.intro hz0 (And.intro hz1 hz2)))
  clear hi hz0 hz1 hz2
  obtain ⟨R, hR⟩ : ∃ R, R = noteR big (l.length + 1) l := ⟨_, rfl⟩
  rw [← hR]
  have HR := Lib.hid hR
  clear hR
  have hls : (⟨l.toArray⟩ : ByteArray).size = l.length := rfl
  go_enter Tryd.func11, Tryd.ntmps11
  go_wp2_with (first
    | (go_at_call 25; refine (read_any big l 0 _).mono ?_; rintro e w' ⟨rfl, rfl⟩))
  go_loopw [6] (fun v wr => ∃ (at_ f : Nat) (pre : List NoteD) (a : Option Addr) (c : Nat), v = .slice a pre.length c ∧ at_ ≤ l.length ∧ pre.length ≤ at_ ∧ l.length < at_ + f ∧ Hid (RdrAt wr (w.heap.size + 2) big l at_ false) ∧ Hid (wr.ownsRow (w.heap.size + 3) 34 3 v pre.length (pre.flatMap encN)) ∧ Hid (Below w.heap.size w wr) ∧ Hid (R = preR pre (noteR big f (l.drop at_)))) (fun v wr => l.length - slLen v)
  case atStart =>
    refine ⟨0, l.length + 1, [], none, 0, rfl, Nat.zero_le _, Nat.le_refl _, by omega, Lib.hid ?_, Lib.hid (World.ownsRow_nil _ _ _ _), Lib.hid ?_, Lib.hid ?_⟩
    · unfold RdrAt; exact heap_at _ _ _ (by simp)
    · exact (((Below.refl w.heap.size w).alloc (Nat.le_refl _) _).alloc (by simp) _).alloc (by simp; omega) _
    · rw [HR.out, List.drop_zero]
      cases noteR big (l.length + 1) l <;> rfl
  case round =>
    obtain ⟨at_, f, pre, a, c, rfl, hat, hpre, hf, HRD, HO, HB, HK⟩ := hrel
    have hszr : w.heap.size + 2 < wr.heap.size := HRD.out.lt
    by_cases hlt : at_ < l.length
    · obtain ⟨f', rfl⟩ : ∃ f', f = f' + 1 := ⟨f - 1, by omega⟩
      obtain ⟨a1, e1⟩ : ∃ x, x = rbAt l at_ false 4 := ⟨_, rfl⟩
      obtain ⟨b1, d1⟩ : ∃ x, x = rbBad l at_ false 4 := ⟨_, rfl⟩
      obtain ⟨v1, g1⟩ : ∃ x, x = rnV big l at_ false 4 := ⟨_, rfl⟩
      obtain ⟨a2, e2⟩ : ∃ x, x = rbAt l a1 b1 4 := ⟨_, rfl⟩
      obtain ⟨b2, d2⟩ : ∃ x, x = rbBad l a1 b1 4 := ⟨_, rfl⟩
      obtain ⟨v2, g2⟩ : ∃ x, x = rnV big l a1 b1 4 := ⟨_, rfl⟩
      obtain ⟨a3, e3⟩ : ∃ x, x = rbAt l a2 b2 4 := ⟨_, rfl⟩
      obtain ⟨b3, d3⟩ : ∃ x, x = rbBad l a2 b2 4 := ⟨_, rfl⟩
      obtain ⟨v3, g3⟩ : ∃ x, x = rnV big l a2 b2 4 := ⟨_, rfl⟩
      obtain ⟨p, hp⟩ : ∃ x, x = (padZ (v1 % 4)).length := ⟨_, rfl⟩
      obtain ⟨q, hq⟩ : ∃ x, x = (padZ (v2 % 4)).length := ⟨_, rfl⟩
      obtain ⟨a4, e4⟩ : ∃ x, x = rbAt l a3 b3 v1 := ⟨_, rfl⟩
      obtain ⟨b4, d4⟩ : ∃ x, x = rbBad l a3 b3 v1 := ⟨_, rfl⟩
      obtain ⟨s1, g4⟩ : ∃ x, x = rbL l a3 b3 v1 := ⟨_, rfl⟩
      obtain ⟨a5, e5⟩ : ∃ x, x = rbAt l a4 b4 p := ⟨_, rfl⟩
      obtain ⟨b5, d5⟩ : ∃ x, x = rbBad l a4 b4 p := ⟨_, rfl⟩
      obtain ⟨s2, g5⟩ : ∃ x, x = rbL l a4 b4 p := ⟨_, rfl⟩
      obtain ⟨a6, e6⟩ : ∃ x, x = rbAt l a5 b5 v2 := ⟨_, rfl⟩
      obtain ⟨b6, d6⟩ : ∃ x, x = rbBad l a5 b5 v2 := ⟨_, rfl⟩
      obtain ⟨s3, g6⟩ : ∃ x, x = rbL l a5 b5 v2 := ⟨_, rfl⟩
      obtain ⟨a7, e7⟩ : ∃ x, x = rbAt l a6 b6 q := ⟨_, rfl⟩
      obtain ⟨b7, d7⟩ : ∃ x, x = rbBad l a6 b6 q := ⟨_, rfl⟩
      obtain ⟨s4, g7⟩ : ∃ x, x = rbL l a6 b6 q := ⟨_, rfl⟩
      have HST := Lib.hid (note_step big l at_ hlt f' pre R HK.out a1 a2 a3 a4 a5 a6 a7 v1 v2 v3 p q b1 b2 b3 b4 b5 b6 b7 s1 s2 s3 s4 e1 d1 g1 e2 d2 g2 e3 d3 g3 e4 d4 g4 e5 d5 g5 e6 d6 g6 e7 d7 g7 hp hq)
      have le1 : ∀ {x : Nat} {y : Bool} {m : Nat}, x ≤ l.length → rbAt l x y m ≤ l.length := by intro x y m hx; unfold rbAt; split <;> omega
      have ha1 : a1 ≤ l.length := by rw [e1]; exact le1 hat
      have ha2 : a2 ≤ l.length := by rw [e2]; exact le1 ha1
      have ha3 : a3 ≤ l.length := by rw [e3]; exact le1 ha2
      have ha4 : a4 ≤ l.length := by rw [e4]; exact le1 ha3
      have ha5 : a5 ≤ l.length := by rw [e5]; exact le1 ha4
      have ha6 : a6 ≤ l.length := by rw [e6]; exact le1 ha5
      have hv1 : v1 < 18446744073709551616 := by rw [g1]; exact getL_lt8 _ _ (Nat.le_trans (rbL_length _ _ _ _) (by decide))
      have hv2 : v2 < 18446744073709551616 := by rw [g2]; exact getL_lt8 _ _ (Nat.le_trans (rbL_length _ _ _ _) (by decide))
      have hv3 : v3 < 18446744073709551616 := by rw [g3]; exact getL_lt8 _ _ (Nat.le_trans (rbL_length _ _ _ _) (by decide))
      have ll : ∀ {x : Nat} {y : Bool} {m : Nat}, (rbL l x y m).length ≤ l.length := by
        intro x y m; unfold rbL; split
        · rw [List.length_take, List.length_drop]; omega
        · simp
      have hs1 : s1.length ≤ 100000 := by rw [g4]; exact Nat.le_trans ll hl
      have hs2 : s2.length ≤ 100000 := by rw [g5]; exact Nat.le_trans ll hl
      have hs3 : s3.length ≤ 100000 := by rw [g6]; exact Nat.le_trans ll hl
      have hs4 : s4.length ≤ 100000 := by rw [g7]; exact Nat.le_trans ll hl
      have hpl : p ≤ 3 := by rw [hp, padZ_length]; omega
      have hql : q ≤ 3 := by rw [hq, padZ_length]; omega
      have N1 := Lib.hid (fun W h => next_any (w.heap.size + 2) big l (by omega) at_ (by omega) false 4 (by decide) (by decide) W h)
      have N2 := Lib.hid (fun W h => next_any (w.heap.size + 2) big l (by omega) a1 (by omega) b1 4 (by decide) (by decide) W h)
      have N3 := Lib.hid (fun W h => next_any (w.heap.size + 2) big l (by omega) a2 (by omega) b2 4 (by decide) (by decide) W h)
      have B4 := Lib.hid (fun W h => bytes_any (w.heap.size + 2) big l (by omega) a3 (by omega) b3 v1 hv1 W h)
      have B5 := Lib.hid (fun W h => bytes_any (w.heap.size + 2) big l (by omega) a4 (by omega) b4 p (by omega) W h)
      have B6 := Lib.hid (fun W h => bytes_any (w.heap.size + 2) big l (by omega) a5 (by omega) b5 v2 hv2 W h)
      have B7 := Lib.hid (fun W h => bytes_any (w.heap.size + 2) big l (by omega) a6 (by omega) b6 q (by omega) W h)
      rw [← e1, ← d1, ← g1] at N1
      rw [← e2, ← d2, ← g2] at N2
      rw [← e3, ← d3, ← g3] at N3
      rw [← e4, ← d4, ← g4] at B4
      rw [← e5, ← d5, ← g5] at B5
      rw [← e6, ← d6, ← g6] at B6
      rw [← e7, ← d7, ← g7] at B7
      have P1 := Lib.hid (fun W => pad_any (v1 % 4) (by omega) W)
      have P2 := Lib.hid (fun W => pad_any (v2 % 4) (by omega) W)
      obtain ⟨z1, hz1⟩ : ∃ z, z = padZ (v1 % 4) := ⟨_, rfl⟩
      obtain ⟨z2, hz2⟩ : ∃ z, z = padZ (v2 % 4) := ⟨_, rfl⟩
      rw [← hz1] at hp P1
      rw [← hz2] at hq P2
      obtain ⟨r1, hr1⟩ : ∃ r, r = v1 % 4 := ⟨_, rfl⟩
      obtain ⟨r2, hr2⟩ : ∃ r, r = v2 % 4 := ⟨_, rfl⟩
      rw [← hr1] at P1
      rw [← hr2] at P2
      have hr14 : r1 < 4 := by omega
      have hr24 : r2 < 4 := by omega
      have t1 : (v1 : Int).tmod 4 = (r1 : Int) := by rw [Int.tmod_eq_emod_of_nonneg (by omega)]; omega
      have t2 : (v2 : Int).tmod 4 = (r2 : Int) := by rw [Int.tmod_eq_emod_of_nonneg (by omega)]; omega
      have zz1 : (⟨z1.toArray⟩ : ByteArray).size = p := by rw [hp]; rfl
      have zz2 : (⟨z2.toArray⟩ : ByteArray).size = q := by rw [hq]; rfl
      have tr := Lib.hid (fun W => trim_b (s2 ++ s4) (by rw [List.length_append]; omega) W)
      clear e1 d1 g1 e2 d2 g2 e3 d3 g3 e4 d4 g4 e5 d5 g5 e6 d6 g6 e7 d7 g7 hp hq hz1 hz2 hr1 hr2 HK
      go_wp2_with (first
        | (go_at_call 26; refine (at_any (w.heap.size + 2) big l at_ false _ HRD.out).mono ?_; rintro e wr ⟨rfl, rfl⟩)
        | (go_at_call 27; have hh := hg2; refine (N3.out _ hg2.1).mono ?_; rintro e w3 ⟨rfl, hq3, hgq3⟩; have hx3 := SN.new hq3 (grownBy_trans hg2.2 hgq3) hszr #[.int .u64 (v3 : Int), .string ⟨#[]⟩, .string ⟨#[]⟩] 34; clear hq3 hgq3)
        | (go_at_call 28; have hh := hx8; refine (B7.out _ hx8.r).mono ?_; rintro e w9 ⟨rfl, hq9, hgq9⟩; have hx9 := hx8.next hq9 hgq9; clear hq9 hgq9)
        | (go_at_call 28; have hh := hx6; refine (B6.out _ hx6.r).mono ?_; rintro e w7 ⟨rfl, hq7, hgq7⟩; have hx7 := hx6.next hq7 hgq7; have y2 := Lib.cell_of_heap hx7.x 2; have y3 := Lib.frozen_of_heap hx7.x 2; dsimp at y2; clear hq7 hgq7)
        | (go_at_call 28; have hh := hx5; refine (B5.out _ hx5.r).mono ?_; rintro e w6 ⟨rfl, hq6, hgq6⟩; have hx6 := hx5.next hq6 hgq6; clear hq6 hgq6)
        | (go_at_call 28; refine (B4.out _ hx3.r).mono ?_; rintro e w4 ⟨rfl, hq4, hgq4⟩; have hx4 := hx3.next hq4 hgq4; have y0 := Lib.cell_of_heap hx4.x 1; have y1 := Lib.frozen_of_heap hx4.x 1; dsimp at y0; clear hq4 hgq4)
        | (go_at_call 20; have hh := hx7; refine (P2.out _).mono ?_; rintro e w8 ⟨rfl, hb8⟩; have hx8 := (hx7.set2 (.string ⟨s3.toArray⟩)).below hb8; clear hb8)
        | (go_at_call 20; have hh := hx4; refine (P1.out _).mono ?_; rintro e w5 ⟨rfl, hb5⟩; have hx5 := (hx4.set1 (.string ⟨s1.toArray⟩)).below hb5; clear hb5)
        | (go_at_call 27; refine (N2.out _ hg1.1).mono ?_; rintro e w2 ⟨rfl, hq2, hgq2⟩; have hg2 := (And.intro hq2 (grownBy_trans hg1.2 hgq2)); clear hq2 hgq2)
        | (go_at_call 27; refine (N1.out _ HRD.out).mono ?_; rintro e w1 ⟨rfl, hq1, hgq1⟩; have hg1 := (And.intro hq1 hgq1); clear hq1 hgq1))
      have HXF := Lib.hid hx9
      have hsz9 := hx9.g.size
      have HOF := Lib.hid (ownsRow_grown_at HO.out hx9.g (by omega))
      have HBF := Lib.hid (HB.out.trans (below_of_grown hx9.g (by omega) (by omega)))
      clear hx3 hx4 hx5 hx6 hx7 hx8 hx9 y0 y1 y2 y3 hg1 hg2 N1 N2 N3 B4 B5 B6 B7 P1 P2 t1 t2 zz1 zz2
      rcases HST.out with ⟨hb, hR⟩ | ⟨hb, ha7, ha12, h0⟩
      · subst hb
        have HRR := Lib.hid hR
        clear hR HST
        go_wp2_with (first | (go_at_call 29; refine (err_any (w.heap.size + 2) big l a7 true _ HXF.out.r).mono ?_; rintro e w9 ⟨rfl, rfl⟩))
        go_ret2
        rw [HRR.out]
        exact ⟨rfl, HBF.out⟩
      · subst hb
        obtain ⟨X, hX⟩ : ∃ X, X = Lib.trimB (s2 ++ s4) 0 := ⟨_, rfl⟩
        have HN0 := trimB_nil (s2 ++ s4) 0
        rw [← hX] at HN0 tr
        clear hX HST
        have f1 : ¬ (9223372036854775807 < s2.length + s4.length) := by omega
        rcases h0 with ⟨hz, hR⟩ | ⟨hz, hR⟩
        · have HRR := Lib.hid hR
          clear hR
          cases X with
          | nil => rw [hz] at HN0; exact absurd (HN0.1 rfl) (by decide)
          | cons x r =>
            clear HN0 hz
            have hxr : ((⟨(x :: r).toArray⟩ : ByteArray) == ⟨#[]⟩) = false := by first | rfl | (show ((x :: r).toArray == #[]) = false; rfl)
            go_wp2_with (first
              | (go_at_call 29; refine (err_any (w.heap.size + 2) big l a7 false _ HXF.out.r).mono ?_; rintro e w9 ⟨rfl, rfl⟩)
              | (go_at_call 30; (try simp only [ByteArray.mk_append_mk]); refine (tr.out _).mono ?_; rintro e wt ⟨rfl, hbt⟩))
            go_ret2
            rw [HRR.out]
            exact ⟨rfl, HBF.out.trans (hbt.mono (by omega))⟩
        · obtain rfl : X = [] := HN0.2 hz
          have HRR := Lib.hid hR
          clear hR HN0 hz
          have hlen : (pre ++ [(⟨v3, s1, s3⟩ : NoteD)]).length = pre.length + 1 := by simp
          have HLN := Lib.hid hlen
          clear hlen
          go_wp2_with (first
            | (go_at_call 29; refine (err_any (w.heap.size + 2) big l a7 false _ HXF.out.r).mono ?_; rintro e w9 ⟨rfl, rfl⟩)
            | (go_at_call 30; (try simp only [ByteArray.mk_append_mk]); refine (tr.out _).mono ?_; rintro e wt ⟨rfl, hbt⟩; have HXT := Lib.hid (HXF.out.below hbt); have HOT := Lib.hid (ownsRow_below HOF.out hbt); have HBT := Lib.hid (HBF.out.trans (hbt.mono (by omega))); have hszt := Nat.le_trans hsz9 hbt.size; have k0 := Lib.cell_of_heap HXT.out.x 0; have k1 := Lib.cell_of_heap HXT.out.x 1; have k2 := Lib.cell_of_heap HXT.out.x 2; dsimp at k0 k1 k2; clear hbt)
            | (at_builtin; refine wpList_append_own _ rfl _ _ 29 rfl (w.heap.size + 3) 34 i0 (.agg #[.int .u64 0, .string ⟨#[]⟩, .string ⟨#[]⟩]) 3 40 Tryd.underlying29 HI.out.1 HI.out.2.1 HI.out.2.2.1 HI.out.2.2.2 rfl (by decide) _ _ _ rfl (HOT.out.alloc _) ⟨wt.heap.size, 0, none⟩ 1 1 [.int .u64 (v3 : Int), .string ⟨s1.toArray⟩, .string ⟨s3.toArray⟩] rfl rfl ?c1 ?c2 ?c3 ?c4 ?c5 ?_))
          case c1 => exact new_cells _ _ [_, _, _] _ (by simp)
          case c2 => intro u hu; simp at hu; rcases hu with rfl | rfl | rfl <;> rfl
          case c3 => unfold maxLen; omega
          case c4 => omega
          case c5 => simp; omega
          intro vv ww hown hgrow hnn
          clear hnn
          obtain ⟨va, vc, rfl⟩ := own_slice hown
          have HBW := Lib.hid (show Below (w.heap.size + 3) wt ww from below_own ((Below.refl _ _).alloc (by omega) _) HOT.out hgrow (by simp; omega) (Nat.le_refl _))
          have HOW := Lib.hid hown
          clear hown hgrow
          go_wp2
          go_roundw
          case rel =>
            refine ⟨a7, f', pre ++ [⟨v3, s1, s3⟩], va, vc, by rw [HLN.out], ha7, by rw [HLN.out]; omega, by omega, Lib.hid ?_, Lib.hid ?_, Lib.hid (HBT.out.trans (HBW.out.mono (by omega))), HRR⟩
            · unfold RdrAt; rw [HBW.out.block _ (by omega)]; exact HXT.out.r
            · rw [HLN.out]; have := HOW.out; simpa [encN] using this
          case measure => simp [slLen]; omega
    · obtain rfl : at_ = l.length := by omega
      have hRR : R = .ok pre := by
        obtain ⟨f', rfl⟩ : ∃ f', f = f' + 1 := ⟨f - 1, by omega⟩
        rw [HK.out, noteR, if_pos (by simp)]; simp [preR]
      have HRR := Lib.hid hRR
      clear hRR
      go_wp2_with (first
        | (go_at_call 26; refine (at_any (w.heap.size + 2) big l l.length false _ HRD.out).mono ?_; rintro e wr ⟨rfl, rfl⟩))
      go_ret2
      rw [HRR.out]
      exact ⟨_, _, rfl, own_lower HO.out (by omega), HB.out⟩
theorem notes_any (big wide : Bool) (l : List UInt8) (hl : l.length ≤ 100000) (w : World) :
    Calls Tryd.prog 11 #[.agg #[.bool big, .bool wide], .string ⟨l.toArray⟩] w (NotesPost w (noteR big (l.length + 1) l)) := by
  refine (notes_own big wide l hl w).mono ?_
  intro e w' h
  cases hr : noteR big (l.length + 1) l with
  | error c => rw [hr] at h; exact h
  | ok es =>
    rw [hr] at h
    obtain ⟨a, c, he, ho, hb⟩ := h
    exact ⟨a, c, he, Rd.of_own ho, hb⟩
end Go.Proofs.YtcfbdnlbgcoicaaDoor

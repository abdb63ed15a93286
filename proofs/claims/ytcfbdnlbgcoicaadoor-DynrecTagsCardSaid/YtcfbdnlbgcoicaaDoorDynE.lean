/- Contracts over this translation: dynrec.All, Find. -/
import Derived.Test.YtcfbdnlbgcoicaaDoorDynA
namespace Go.Proofs.YtcfbdnlbgcoicaaDoor
set_option linter.unusedVariables false
set_option linter.unusedSimpArgs false
open Go.RowKit

theorem Tryd.infoU64 : (Tryd.prog.info? 31).map (fun i => (i.zero, i.size, i.bytes)) = some (some (.int .u64 0), 1, 8) := by kernel_rfl
def allL (l : List (Nat × Nat)) (tag : Nat) : List Nat := (l.filter (fun e => e.1 == tag)).map (·.2)
theorem allL_append (l m : List (Nat × Nat)) (tag : Nat) : allL (l ++ m) tag = allL l tag ++ allL m tag := by simp [allL]
def AllPost (w : World) (r : List Nat) (e : Ending) (w' : World) : Prop := ∃ a c, e = .returned (.slice a r.length c) ∧ Rd w' a (r.map encU) ∧ Below w.heap.size w w'

set_option maxHeartbeats 4000000 in
theorem all_any (l : List (Nat × Nat)) (hl : l.length ≤ 100000) (hns : ∀ e ∈ l, e.1 < 18446744073709551616 ∧ e.2 < 18446744073709551616) (tag : Nat) (htag : tag < 18446744073709551616) (a : Option Addr) (c : Nat) (w : World)
    (hr : Rd w a (l.flatMap encE)) :
    Calls Tryd.prog 15 #[.slice a l.length c, .int .u64 tag] w (AllPost w (allL l tag)) := by
  obtain ⟨i0, hi, hz0, hz1, hz2⟩ := info_parts Tryd.infoU64
  have HI := Lib.hid (And.intro hi (And.intro hz0 (And.intro hz1 hz2)))
  have HR := Lib.hid hr
  have HN := Lib.hid hns
  obtain ⟨R, hR⟩ : ∃ R, R = allL l tag := ⟨_, rfl⟩
  rw [← hR]
  have HRR := Lib.hid hR
  clear hi hz0 hz1 hz2 hr hns hR
  go_enter Tryd.func15, Tryd.ntmps15
  go_wp2
  go_loopw [10, 5] (fun i v wr => ∃ k : Nat, k ≤ l.length ∧ i = .int .i64 k ∧ (∃ va vc, v = .slice va (allL (l.take k) tag).length vc) ∧ Hid (wr.ownsRow w.heap.size 31 1 v (allL (l.take k) tag).length ((allL (l.take k) tag).map encU)) ∧ Hid (Below w.heap.size w wr)) (fun i v _ => l.length - (intOf i).toNat)
  case atStart => exact ⟨0, Nat.zero_le _, rfl, ⟨none, 0, rfl⟩, Lib.hid (World.ownsRow_nil _ _ _ _), Lib.hid (Below.refl _ _)⟩
  case round =>
    obtain ⟨k, hk, rfl, ⟨va, vc, rfl⟩, HO, HB⟩ := hrel
    have hszr : w.heap.size ≤ wr.heap.size := HB.out.size
    by_cases hlt : k < l.length
    · obtain ⟨x, y, hxy⟩ : ∃ x y, l[k] = (x, y) := ⟨_, _, rfl⟩
      have hx2 : x < 18446744073709551616 ∧ y < 18446744073709551616 := by have := HN.out _ (List.getElem_mem hlt); rw [hxy] at this; exact this
      obtain ⟨b0, o0, hbo, hcl⟩ := (HR.out.below HB.out).at (by rw [flat_length encE 2 encE_length]; omega)
      subst hbo
      have q0 := hcl (k * 2 + 0) (.int .u64 (x : Int)) (by rw [flat_get encE 2 encE_length l k hlt 0 (by decide), hxy]; rfl)
      have q1 := hcl (k * 2 + 1) (.int .u64 (y : Int)) (by rw [flat_get encE 2 encE_length l k hlt 1 (by decide), hxy]; rfl)
      rw [Nat.add_zero] at q0
      rw [← Nat.add_assoc] at q1
      have htk : l.take (k + 1) = l.take k ++ [(x, y)] := by rw [List.take_add_one, List.getElem?_eq_getElem hlt, hxy]; rfl
      have hlen : (allL (l.take k) tag).length ≤ 100000 := by
        unfold allL; rw [List.length_map]
        have h1 := List.length_filter_le (fun e : Nat × Nat => e.1 == tag) (l.take k)
        rw [List.length_take] at h1; omega
      obtain ⟨pre, hpre⟩ : ∃ pre, pre = allL (l.take k) tag := ⟨_, rfl⟩
      rw [← hpre] at HO hlen
      rw [← hpre]
      have HTK := Lib.hid htk
      have HPR := Lib.hid hpre
      clear hcl hxy htk hpre
      by_cases hxt : x = tag
      · subst hxt
        have HE := Lib.hid (show allL (l.take (k + 1)) x = pre ++ [y] by rw [HTK.out, allL_append, ← HPR.out]; simp [allL])
        go_wp2_with (first
          | (at_builtin; refine wpList_append_own _ rfl _ _ 58 rfl w.heap.size 31 i0 (.int .u64 0) 1 8 Tryd.underlying58 HI.out.1 HI.out.2.1 HI.out.2.2.1 HI.out.2.2.2 rfl (by decide) _ _ _ rfl ((HO.out.alloc _).alloc _) ⟨wr.heap.size + 1, 0, none⟩ 1 1 [.int .u64 (y : Int)] rfl rfl ?c1 ?c2 ?c3 ?c4 ?c5 ?_))
        case c1 => exact new_cells _ _ [_] _ (by simp)
        case c2 => intro u hu; simp at hu; subst hu; rfl
        case c3 => unfold maxLen; omega
        case c4 => omega
        case c5 => simp; omega
        intro vv ww hown hgrow hnn
        clear hnn
        obtain ⟨va', vc', rfl⟩ := own_slice hown
        have HBW := Lib.hid (show Below w.heap.size w ww from below_own ((HB.out.alloc (by omega) _).alloc (by simp; omega) _) HO.out hgrow (by simp; omega) (Nat.le_refl _))
        have HOW := Lib.hid hown
        clear hown hgrow
        go_wp2
        go_roundw
        case rel =>
          have e1 : (allL (l.take (k + 1)) x).length = pre.length + 1 := by rw [HE.out]; simp
          refine ⟨k + 1, by omega, by go_num, ⟨va', vc', by rw [e1]⟩, ?_, HBW⟩
          rw [e1, HE.out]
          have := HOW.out
          exact Lib.hid (by simpa [encU] using this)
        case measure => simp [intOf]; omega
      · have hxb : ((x : Int) == (tag : Int)) = false := by simp; omega
        have HE := Lib.hid (show allL (l.take (k + 1)) tag = pre by rw [HTK.out, allL_append, ← HPR.out]; simp [allL, hxt])
        go_wp2
        refine ⟨⟨k + 1, by omega, by go_num, ⟨va, vc, by rw [HE.out]⟩, Lib.hid ?_, Lib.hid (HB.out.alloc hszr _)⟩, by simp [intOf]; omega⟩
        rw [HE.out]
        exact HO.out.alloc _
    · obtain rfl : k = l.length := by omega
      rw [List.take_length, ← HRR.out] at HO
      rw [List.take_length, ← HRR.out]
      go_wp2
      go_ret
      exact ⟨_, _, rfl, Rd.of_own HO.out, HB.out⟩

theorem find_any (l : List (Nat × Nat)) (hl : l.length ≤ 100000) (hns : ∀ e ∈ l, e.1 < 18446744073709551616 ∧ e.2 < 18446744073709551616) (tag : Nat) (htag : tag < 18446744073709551616) (a : Option Addr) (c : Nat) (w : World)
    (hr : Rd w a (l.flatMap encE)) :
    Calls Tryd.prog 16 #[.slice a l.length c, .int .u64 tag] w fun e w' => e = .returned (.tuple #[.int .u64 (((allL l tag).headD 0 : Nat) : Int), .bool (decide (allL l tag ≠ []))]) ∧ Below w.heap.size w w' := by
  have HA := Lib.hid (all_any l hl hns tag htag a c w hr)
  clear hr hns
  obtain ⟨R, hR⟩ : ∃ R, R = allL l tag := ⟨_, rfl⟩
  rw [← hR] at HA ⊢
  clear hR
  cases R with
  | nil =>
    go_enter Tryd.func16, Tryd.ntmps16
    go_wp2_with (first | (go_at_call 15; refine HA.out.mono ?_; rintro e w' ⟨va, vc, rfl, hrd, hb⟩))
    go_ret2
    exact ⟨rfl, hb⟩
  | cons x r =>
    go_enter Tryd.func16, Tryd.ntmps16
    go_wp2_with (first | (go_at_call 15; refine HA.out.mono ?_; rintro e w' ⟨va, vc, rfl, hrd, hb⟩; obtain ⟨b0, o0, rfl, hcl⟩ := hrd.at (by simp); have q0 := hcl 0 (.int .u64 (x : Int)) rfl; rw [Nat.add_zero] at q0; have HBB := Lib.hid hb; clear hcl hrd hb))
    go_ret2
    exact ⟨rfl, HBB.out⟩
end Go.Proofs.YtcfbdnlbgcoicaaDoor

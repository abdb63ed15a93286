/- Contracts over this translation: slices.Concat of three slices of members. -/
import Derived.Test.YtienjagoplcimaaArlG
namespace Go.Proofs.Ytienjagoplcimaa
set_option linter.unusedVariables false
set_option linter.unusedSimpArgs false
open Go.RowKit Go.Proofs.YtienjagoplcimaaW.PrintWords

theorem own_ge {w : World} {b : Nat} {e : TypeId} {sz n : Nat} {v : Value} {xs : List Value} (h : w.ownsRow b e sz v n xs) : ∀ k, v.ownBlock = some k → b ≤ k := by
  intro k hk
  rcases h.2 with ⟨rfl, _⟩ | ⟨g, cap, cur, rfl, hg, _⟩
  · cases hk
  · cases hk; exact hg
theorem append_none (w : World) (ty : TypeId) {b n : Nat} {v : Value} {xs : List Value} (hown : w.ownsRow b 28 6 v n xs) (c : Nat) :
    (Builtin.append_ #[24, 24] ty #[v, .slice none 0 c]).run Try.prog w = .ok v w := by
  obtain ⟨i0, hi, hz0, hz1, hz2⟩ := info_parts Try.infoMem
  rcases hown.2 with ⟨rfl, rfl⟩ | ⟨g, cap, cur, rfl, _, _, hnc, _⟩
  · simp [Builtin.append_, run_underlying Try.underlying24, sizeOf, typeInfo, hi, Builtin.lenOf, Builtin.firstCells]
  · simp [Builtin.append_, run_underlying Try.underlying24, sizeOf, typeInfo, hi, Builtin.lenOf, Builtin.firstCells, hnc, storeCells]
structure SlD where
  a : Option Addr
  c : Nat
  l : List MemD
def SlD.val (s : SlD) : Value := .slice s.a s.l.length s.c
theorem sum_step (ss : List SlD) (k : Nat) (s : SlD) (h : ss[k]? = some s) : ((ss.take (k + 1)).flatMap (·.l)).length = ((ss.take k).flatMap (·.l)).length + s.l.length := by
  rw [List.take_add_one, h]
  simp
theorem cells_step (ss : List SlD) (k : Nat) (s : SlD) (h : ss[k]? = some s) : (((ss.take (k + 1)).flatMap (·.l)).flatMap encM) = (((ss.take k).flatMap (·.l)).flatMap encM) ++ s.l.flatMap encM := by
  rw [List.take_add_one, h]
  simp
theorem sum_le (ss : List SlD) (k : Nat) : ((ss.take k).flatMap (·.l)).length ≤ (ss.flatMap (·.l)).length := by
  have h : ss.flatMap (·.l) = (ss.take k).flatMap (·.l) ++ (ss.drop k).flatMap (·.l) := by rw [← List.flatMap_append, List.take_append_drop]
  rw [h, List.length_append]
  omega
set_option maxHeartbeats 1000000 in
set_option maxRecDepth 100000 in
theorem concat_m (ss : List SlD) (T : List MemD) (hT : T = ss.flatMap (·.l)) (hs3 : ss.length = 3) (h0 : 0 < T.length) (hn : T.length ≤ 1000000) (b : Nat) (w : World) (hb : ∀ j s, ss[j]? = some s → w.cell? ⟨b, j, none⟩ = some s.val) (hr : ∀ s ∈ ss, Rd w s.a (s.l.flatMap encM)) :
    Calls Try.prog 25 #[.slice (some ⟨b, 0, none⟩) 3 3] w fun e w' => (∃ v, e = .returned v ∧ w'.ownsRow w.heap.size 28 6 v T.length (T.flatMap encM)) ∧ Below w.heap.size w w' := by
  obtain ⟨i0, hi, hz0, hz1, hz2⟩ := info_parts Try.infoMem
  have HT := Lib.hid hT
  clear hT
  go_enter Try.func25, Try.ntmps25
  go_wp2
  go_loopw [3, 11] (fun sz i wr => ∃ k : Nat, k ≤ 3 ∧ i = .int .i64 k ∧ sz = .int .i64 (((ss.take k).flatMap (·.l)).length : Int) ∧ Hid (Below w.heap.size w wr)) (fun _ i _ => 3 - (intOf i).toNat)
  case atStart => exact ⟨0, by omega, rfl, rfl, Lib.hid (Below.refl _ _)⟩
  case round =>
    obtain ⟨k, hk, rfl, rfl, HB⟩ := hrel
    by_cases hlt : k < 3
    · obtain ⟨s, hs⟩ : ∃ s, ss[k]? = some s := ⟨ss[k], List.getElem?_eq_getElem (by omega)⟩
      have q0 := hb k s hs
      have hlen := sum_step ss k s hs
      have htot := sum_le ss (k + 1)
      rw [← HT.out] at htot
      rw [← HB.out.cell (cell_lt q0)] at q0
      unfold SlD.val at q0
      obtain ⟨S, hS⟩ : ∃ S, S = ((ss.take k).flatMap (·.l)).length := ⟨_, rfl⟩
      rw [← hS] at hlen ⊢
      have hw : wrap64 ((S : Int) + (s.l.length : Int)) = (S : Int) + (s.l.length : Int) := by unfold wrap64; omega
      have hneg : ¬ ((S : Int) + (s.l.length : Int) < 0) := by omega
      have HLN := Lib.hid hlen
      have HW := Lib.hid hw
      clear hS hlen htot
      go_wp2
      exact ⟨⟨k + 1, by omega, by go_num, by rw [HLN.out, HW.out]; push_cast; rfl, HB⟩, by simp [intOf]; omega⟩
    · obtain rfl : k = 3 := by omega
      have htk : ss.take 3 = ss := List.take_of_length_le (by omega)
      rw [htk, ← HT.out]
      clear htk
      go_wp2_with (first | (go_at_call 35; refine (grow_m T.length h0 hn _).mono ?_; rintro e w1 ⟨⟨v, rfl, ho⟩, hb1⟩; have HO1 := Lib.hid (owns_base ho HB.out.size); have HB1 := Lib.hid (HB.out.trans (hb1.mono HB.out.size)); clear ho hb1))
      go_loopw [6, 27] (fun v i wr => ∃ k : Nat, k ≤ 3 ∧ i = .int .i64 k ∧ Hid (wr.ownsRow w.heap.size 28 6 v ((ss.take k).flatMap (·.l)).length (((ss.take k).flatMap (·.l)).flatMap encM)) ∧ Hid (Below w.heap.size w wr)) (fun _ i _ => 3 - (intOf i).toNat)
      case atStart => exact ⟨0, by omega, rfl, HO1, HB1⟩
      case round =>
        obtain ⟨k, hk, rfl, HO, HB2⟩ := hrel
        by_cases hlt : k < 3
        · obtain ⟨s, hs⟩ : ∃ s, ss[k]? = some s := ⟨ss[k], List.getElem?_eq_getElem (by omega)⟩
          have q0 := hb k s hs
          have hlen := sum_step ss k s hs
          have htot := sum_le ss (k + 1)
          have hcells := cells_step ss k s hs
          have hrs := (hr s (List.mem_of_getElem? hs)).below HB2.out
          have hl6 := flat_length encM 6 encM_length s.l
          rw [← HB2.out.cell (cell_lt q0)] at q0
          unfold SlD.val at q0
          rw [← HT.out] at htot
          obtain ⟨X, hX⟩ : ∃ X, X = (ss.take k).flatMap (·.l) := ⟨_, rfl⟩
          rw [← hX] at HO hlen hcells
          obtain ⟨a, c, l⟩ := s
          simp only at q0 hlen hcells hrs hl6
          have HLN := Lib.hid hlen
          have HCE := Lib.hid hcells
          have HRS := Lib.hid hrs
          have hbig : X.length + l.length ≤ 1000000 := by omega
          clear hlen hcells htot hrs hX
          cases a with
          | none =>
            have h0' := HRS.out.none_nil
            have hl0 : l = [] := by
              cases l with
              | nil => rfl
              | cons x r => simp [encM] at h0'
            subst hl0
            have HAP := Lib.hid (fun ty => append_none wr ty HO.out c)
            go_wp2_with (first | (at_builtin; refine Lib.wpList_append_run _ rfl _ _ _ _ rfl _ _ rfl rfl _ _ (HAP.out _) ?_))
            exact ⟨⟨k + 1, by omega, by go_num, Lib.hid (by rw [HLN.out, HCE.out]; simpa using HO.out), HB2⟩, by simp [intOf]; omega⟩
          | some ad =>
            obtain ⟨ab, ao, asp⟩ := ad
            go_wp2_with (first
              | (at_builtin; refine wpList_append_own _ rfl _ _ 24 rfl w.heap.size 28 i0 (.agg #[.string ⟨#[]⟩, .int .u64 0, .int .u64 0, .int .u64 0, .int .u64 0, .string ⟨#[]⟩]) 6 64 Try.underlying24 hi hz0 hz1 hz2 rfl (by decide) _ _ _ rfl HO.out ⟨ab, ao, asp⟩ l.length c (l.flatMap encM) rfl hl6 ?c1 ?c2 ?c3 ?c4 ?c5 ?_))
            case c1 => exact HRS.out.news
            case c2 => first | exact encM_one l | exact fun u x hx hu => encM_one l u (List.mem_flatMap.2 ⟨x, hx, hu⟩)
            case c3 => unfold maxLen; omega
            case c4 => omega
            case c5 => exact HB2.out.size
            intro v' w2 hown hgrow _
            have HO3 := Lib.hid hown
            have HB3 := Lib.hid (HB2.out.grown hgrow HB2.out.size (own_ge HO.out))
            clear hown hgrow
            go_wp2
            exact ⟨⟨k + 1, by omega, by go_num, Lib.hid (by rw [HLN.out, HCE.out]; exact HO3.out), HB3⟩, by simp [intOf]; omega⟩
        · obtain rfl : k = 3 := by omega
          go_wp2
          go_ret
          have h9 := HO.out
          rw [List.take_of_length_le (by omega), ← HT.out] at h9
          exact ⟨⟨_, rfl, h9⟩, HB2.out⟩
end Go.Proofs.Ytienjagoplcimaa

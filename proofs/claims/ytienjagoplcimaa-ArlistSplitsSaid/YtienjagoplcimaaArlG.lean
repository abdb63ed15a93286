/- Contracts over this translation: slices.Grow of nil, ContainsFunc(bad) of good names. -/
import Derived.Test.YtienjagoplcimaaArlF
import Derived.Lib.AppendZerosOnto
namespace Go.Proofs.Ytienjagoplcimaa
set_option linter.unusedVariables false
set_option linter.unusedSimpArgs false
open Go.RowKit Go.Proofs.YtienjagoplcimaaW.PrintWords

set_option maxHeartbeats 600000 in
set_option maxRecDepth 100000 in
theorem grow_m (n : Nat) (h0 : 0 < n) (hn : n ≤ 1000000) (w : World) :
    Calls Try.prog 35 #[.slice none 0 0, .int .i64 (n : Int)] w fun e w' => (∃ v, e = .returned v ∧ w'.ownsRow w.heap.size 28 6 v 0 []) ∧ Below w.heap.size w w' := by
  obtain ⟨i0, hi0, hz0, hz1, hz2⟩ := info_parts Try.infoMem
  have h1 : ¬ ((n : Int) < 0) := by omega
  have h3 : wrap64 ((n : Int) - 0) = (n : Int) := by unfold wrap64; omega
  have h4 : (0 : Int) < (n : Int) := by omega
  obtain ⟨G, hG⟩ : ∃ G, G = grownCap w n 0 28 := ⟨_, rfl⟩
  have hGn : n ≤ G := by rw [hG]; exact grownCap_ge w _ _ _
  have hGm : G ≤ maxLen := by rw [hG]; exact grownCap_le_maxLen w _ _ _ (by unfold maxLen; omega)
  obtain ⟨zs, hzs⟩ : ∃ zs : Array Value, zs = Builtin.zeroCells (Value.cells (.agg #[.string ⟨#[]⟩, .int .u64 0, .int .u64 0, .int .u64 0, .int .u64 0, .string ⟨#[]⟩])) n ++ Builtin.zeroCells (Value.cells (.agg #[.string ⟨#[]⟩, .int .u64 0, .int .u64 0, .int .u64 0, .int .u64 0, .string ⟨#[]⟩])) (G - n) := ⟨_, rfl⟩
  have hsz : zs.size = G * 6 := by
    rw [hzs, Array.size_append, size_zeroCells, size_zeroCells]
    have : (Value.cells (.agg #[.string ⟨#[]⟩, .int .u64 0, .int .u64 0, .int .u64 0, .int .u64 0, .string ⟨#[]⟩])).size = 6 := by simp [Value.cells]
    rw [this]; omega
  have hrz : ∀ ty, (Builtin.append_ #[24, 3] ty #[.slice none 0 0, .int .i64 (n : Int)]).run Try.prog w = .ok (.slice (some ⟨w.heap.size, 0, none⟩) n G) (w.drew.alloc (.cells zs 28)) := fun ty => by
    have h := Lib.run_append_grow_zeros w 24 3 ty 28 i0 _ .i64 .i64 Try.underlying24 Try.underlying3 hi0 hz0 none 0 0 [] (run_firstCells_none w.drew i0.size 0 0 0) n h0 (by rw [hz1]; decide) (by omega) (by omega) (by rw [hz2]; omega) (by rw [hz2]; exact growslice_fits (by omega) (by omega))
    rw [Nat.zero_add, ← hG] at h
    rw [h, hzs]
    simp
  have HGG := Lib.hid hG
  have HZ := Lib.hid hzs
  have HS := Lib.hid hsz
  clear hG hzs hsz
  have hG63 : G ≤ 9223372036854775807 := by unfold maxLen at hGm; omega
  go_enter Try.func35, Try.ntmps35
  go_wp2_with (at_builtin; refine Lib.wpList_append_run _ rfl _ _ _ _ rfl _ _ rfl rfl _ _ (hrz _) ?_)
  go_ret
  refine ⟨⟨_, rfl, rfl, .inr ⟨w.heap.size, G, zs, rfl, Nat.le_refl _, heap_new w.drew _, Nat.zero_le _, hGm, HS.out, rfl⟩⟩, (⟨rfl, rfl, rfl, Nat.le_refl _, fun _ _ => rfl⟩ : Below w.heap.size w w.drew).alloc (Nat.le_refl _) _⟩
def goodNm (s : ByteArray) : Prop := 0 < s.size ∧ s.size ≤ 255 ∧ (∀ (j : Nat) b, s.data.toList[j]? = some b → b.toNat < 128) ∧ Lib.containsAny s.data.toList [47, 10, 0] = false
theorem bad_m (m : MemD) (hg : goodNm m.n) (w : World) : Calls Try.prog 22 #[.agg #[.string m.n, .int .u64 m.a, .int .u64 m.b, .int .u64 m.c, .int .u64 m.d, .string m.s]] w fun e w' => e = .returned (.bool false) ∧ Below w.heap.size w w' := by
  have hG := Lib.hid (fun W => good_m m.n hg.1 hg.2.1 hg.2.2.1 W)
  rw [hg.2.2.2] at hG
  go_enter Try.func22, Try.ntmps22
  go_wp2_with (first | (go_at_call 14; refine (hG.out _).mono ?_; rintro e w1 ⟨rfl, hb1⟩; have HB1 := Lib.hid hb1; clear hb1))
  go_ret
  exact ⟨rfl, ((Below.refl w.heap.size w).alloc (Nat.le_refl _) _).trans (HB1.out.mono (by simp))⟩
set_option maxHeartbeats 1000000 in
theorem indexFunc_bad (l : List MemD) (hl : l.length ≤ 1000000) (hg : ∀ m ∈ l, goodNm m.n) (a : Option Addr) (c : Nat) (w : World) (hr : Rd w a (l.flatMap encM)) :
    Calls Try.prog 33 #[.slice a l.length c, .func (.func 22) #[] #[]] w fun e w' => e = .returned (.int .i64 (-1)) ∧ Below w.heap.size w w' := by
  have HR := Lib.hid hr
  clear hr
  go_enter Try.func33, Try.ntmps33
  go_wp2
  go_loopw [8] (fun i wr => ∃ k : Nat, k ≤ l.length ∧ i = .int .i64 k ∧ Hid (Below w.heap.size w wr)) (fun i _ => l.length - (intOf i).toNat)
  case atStart => exact ⟨0, Nat.zero_le _, rfl, Lib.hid (Below.refl _ _)⟩
  case round =>
    obtain ⟨k, hk, rfl, HB⟩ := hrel
    by_cases hlt : k < l.length
    · obtain ⟨m, hm⟩ : ∃ m, m = l[k] := ⟨_, rfl⟩
      obtain ⟨b0, o0, hbo, hcl⟩ := HR.out.at (by rw [flat_length encM 6 encM_length]; omega)
      have hq := member_at l k m hlt hm b0 o0 w wr hcl HB.out
      subst hbo
      obtain ⟨q0, q1, q2, q3, q4, q5⟩ := hq
      have HF := Lib.hid (fun W => bad_m m (hg m (by rw [hm]; exact List.getElem_mem hlt)) W)
      clear hcl hm
      go_wp2_with (first | (go_at_call 22; refine (HF.out _).mono ?_; rintro e w1 ⟨rfl, hb1⟩; have HB1 := Lib.hid (HB.out.trans (hb1.mono HB.out.size)); clear hb1))
      exact ⟨⟨k + 1, by omega, by go_num, HB1⟩, by simp [intOf]; omega⟩
    · obtain rfl : k = l.length := by omega
      go_wp2
      go_ret
      exact ⟨rfl, HB.out⟩
theorem contains_bad (l : List MemD) (hl : l.length ≤ 1000000) (hg : ∀ m ∈ l, goodNm m.n) (a : Option Addr) (c : Nat) (w : World) (hr : Rd w a (l.flatMap encM)) :
    Calls Try.prog 24 #[.slice a l.length c, .func (.func 22) #[] #[]] w fun e w' => e = .returned (.bool false) ∧ Below w.heap.size w w' := by
  have HF := Lib.hid (fun W h => indexFunc_bad l hl hg a c W h)
  have HR := Lib.hid hr
  clear hr
  go_enter Try.func24, Try.ntmps24
  go_wp2_with (first | (go_at_call 33; refine (HF.out _ HR.out).mono ?_; rintro e w1 ⟨rfl, hb1⟩; have HB1 := Lib.hid hb1; clear hb1))
  go_ret
  exact ⟨rfl, HB1.out⟩
end Go.Proofs.Ytienjagoplcimaa

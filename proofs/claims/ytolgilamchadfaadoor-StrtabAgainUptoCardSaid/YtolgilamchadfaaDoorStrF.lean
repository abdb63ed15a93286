/- Contracts over this translation: strtab.Build, whatever the names' lengths, as long as their sum is within bounds. -/
import Derived.Test.YtolgilamchadfaaDoorStrE
namespace Go.Proofs.YtolgilamchadfaaDoor
set_option linter.unusedVariables false
set_option linter.unusedSimpArgs false
open Go.RowKit Go.Shelf
attribute [local go_sem] Oper.semAt_some

def total (l : List ByteArray) : Nat := (l.map (fun s => s.size + 1)).sum
theorem sum_sub (f : List UInt8 → Nat) : ∀ (K L : List (List UInt8)), K.Nodup → (∀ s ∈ K, s ∈ L) → (K.map f).sum ≤ (L.map f).sum
  | [], L, _, _ => by simp
  | k :: K, L, hn, hs => by
    rw [List.nodup_cons] at hn
    have hp := List.perm_cons_erase (hs k (by simp))
    have h1 := (hp.map f).sum_nat
    rw [h1, List.map_cons, List.map_cons, List.sum_cons, List.sum_cons]
    have := sum_sub f K (L.erase k) hn.2 (fun s hks => (List.mem_erase_of_ne (fun e => hn.1 (by rw [← e]; exact hks))).2 (hs s (by simp [hks])))
    omega
theorem stT_total (l : List ByteArray) (pre : List Nat) : (stT l pre).1.length ≤ 1 + total l := by
  have key : ∀ (pre : List Nat) (st : List UInt8 × List (List UInt8)), ([] ∈ st.2 ∧ ∃ K : List (List UInt8), K.Nodup ∧ (∀ s ∈ K, s ∈ st.2 ∧ s ∈ l.map (·.data.toList)) ∧ st.1.length = 1 + (K.map (fun s => s.length + 1)).sum) →
      ∃ K : List (List UInt8), K.Nodup ∧ (∀ s ∈ K, s ∈ l.map (·.data.toList)) ∧ (pre.foldl (stepT l) st).1.length = 1 + (K.map (fun s => s.length + 1)).sum := by
    intro pre
    induction pre with
    | nil => rintro st ⟨_, K, h1, h2, h3⟩; exact ⟨K, h1, fun s hs => (h2 s hs).2, h3⟩
    | cons x r ih =>
      rintro st ⟨h0, K, h1, h2, h3⟩
      rw [List.foldl_cons]
      refine ih _ ?_
      unfold stepT
      refine ⟨List.mem_cons_of_mem _ h0, ?_⟩
      by_cases hc : (!decide ((el l x).data.toList ∈ st.2) && !(l.any (hidB (el l x)))) = true
      · rw [if_pos hc]
        rw [Bool.and_eq_true, Bool.not_eq_true', decide_eq_false_iff_not] at hc
        have hx : x < l.length := by
          rcases Nat.lt_or_ge x l.length with h | h
          · exact h
          · exfalso
            apply hc.1
            unfold el
            rw [List.getElem?_eq_none h]
            exact h0
        refine ⟨(el l x).data.toList :: K, List.nodup_cons.2 ⟨fun h => hc.1 (h2 _ h).1, h1⟩, ?_, ?_⟩
        · intro s hs
          rcases List.mem_cons.1 hs with h | h
          · subst h
            exact ⟨by simp, List.mem_map.2 ⟨l[x], List.getElem_mem hx, by unfold el; rw [List.getElem?_eq_getElem hx]; rfl⟩⟩
          · exact ⟨List.mem_cons_of_mem _ (h2 s h).1, (h2 s h).2⟩
        · rw [List.length_append, h3, List.length_append, List.length_singleton, List.map_cons, List.sum_cons]; omega
      · rw [if_neg hc]
        exact ⟨K, h1, fun s hs => ⟨List.mem_cons_of_mem _ (h2 s hs).1, (h2 s hs).2⟩, h3⟩
  obtain ⟨K, h1, h2, h3⟩ := key pre ([0], [[]]) ⟨by simp, [], List.nodup_nil, (fun s hs => by cases hs), rfl⟩
  unfold stT
  rw [h3]
  have := sum_sub (fun s => s.length + 1) K _ h1 h2
  rw [List.map_map] at this
  have he : (l.map ((fun s : List UInt8 => s.length + 1) ∘ fun x => x.data.toList)).sum = total l := by
    unfold total
    congr 1
  omega
set_option maxRecDepth 100000 in
set_option maxHeartbeats 4000000 in
theorem build_m2 (l : List ByteArray) (hl : l.length ≤ 1000000) (M : Nat) (hM : ∀ s ∈ l, s.size ≤ M) (hT : ∀ pre, (stT l pre).1.length ≤ 140737488355328) (hM2 : M ≤ 140737488355328) (a : Option Addr) (c : Nat) (w : World) (hr : Rd w a (l.map Value.string)) (mx : Int) (hm : w.cell? ⟨0, 0, none⟩ = some (.int .i64 mx)) :
    Calls Tryd.prog 6 #[.slice a l.length c] w fun e w' => (∃ v, e = .returned (.tuple #[.string ⟨(buildR l).1.toArray⟩, v, .int .i64 (buildR l).2.2]) ∧ w'.ownsRow w.heap.size 30 1 v (buildR l).2.1.length ((buildR l).2.1.map (Value.int .u64))) ∧ Below w.heap.size w w' := by
  have HR := Lib.hid hr
  have HM := Lib.hid hm
  clear hr hm
  have HD := Lib.hid (fun W h => containsFunc_dark l hl a c W h)
  obtain ⟨t, ht⟩ : ∃ t, t = l.any darkB := ⟨_, rfl⟩
  rw [← ht] at HD
  have HT := Lib.hid ht
  clear ht
  refine (callsIn_wide (n := 9)).1 ?_
  refine callsIn_of_wp_marks Tryd.func6 rfl trivial ?_ rfl
  simp only [Tryd.ntmps6, List.size_toArray, List.length_cons, List.length_nil, Nat.reduceAdd, Nat.reduceSub, Array.replicate_succ, Array.replicate_zero, List.push_toArray, List.append_toArray, List.nil_append, List.cons_append]
  refine wpIn_wide.2 ?_
  cases t
  · have hmm := @run_makeMap Tryd.prog
    go_wp2_with (first
      | (go_at_call 11; refine (HD.out _ (HR.out.alloc _)).mono ?_; rintro e w1 ⟨rfl, rfl⟩)
      | (go_at_call 14; refine (writeString_o (w.heap.size + 1 + 1) (w.heap.size + 1) [] [0] _ (Bld.fresh (by have := heap_at (w.alloc (.cells #[.slice a l.length c] 22)) (.cells #[.pointer none, .slice none 0 0] 40) (w.heap.size + 1) (by simp); exact this) (Nat.lt_succ_self _) (by simp)) (by simp)).mono ?_; rintro e w1 ⟨rfl, hb1, hk1, _⟩;
          have hs1 : w.heap.size + 2 ≤ w1.heap.size := (by have := hk1.size; simpa using this);
          have hbx1 : w1.heap[w.heap.size]? = some (.cells #[.slice a l.length c] 22) := (hk1.block w.heap.size (by omega) (by omega)).trans (by rw [heap_past _ _ _ (by simp), heap_at _ _ _ rfl]);
          obtain ⟨w2, hrun2, hown2, hg2⟩ := (World.ownsMap_made w1 Tryd.prog 9 (plainElem (H := Unit) Tryd.prog 4)).update (Maps.string_keyed Tryd.underlying9) Tryd.underlying45 (by decide) (Go.WideMaps.keyOf_string_mk Tryd.underlying9 (s := ⟨#[]⟩) (by decide)) (plainElem_bool Tryd.underlying4 true);
          have hold : ∀ k, k < w1.heap.size → w2.heap[k]? = w1.heap[k]? := (fun k hk => (hg2.block k (by simp; omega) (by simp; omega)).trans (heap_past _ _ _ hk));
          have hbx2 : w2.heap[w.heap.size]? = some (.cells #[.slice a l.length c] 22) := (hold _ (by omega)).trans hbx1;
          have hbc2 : (w2.alloc (.cells #[.map (some w1.heap.size)] 45)).cell? ⟨w.heap.size, 0, none⟩ = some (.slice a l.length c) := (by rw [Lib.cell_of_heap ((heap_past _ _ _ (by have := hg2.size; simp at this; omega)).trans hbx2)]; rfl);
          have hs2 := hg2.size;
          have HB1 := Lib.hid hb1; have HK1 := Lib.hid hk1; have HO2 := Lib.hid hown2; have HG2 := Lib.hid hg2; have HOLD := Lib.hid hold; have HBX2 := Lib.hid hbx2; have HS1 := Lib.hid hs1; have HS2 := Lib.hid hs2; clear hb1 hk1 hown2 hg2 hold hbx2 hbx1 hs1 hs2)
      | (go_at_call 15; refine ((callsIn_wide (n := 8)).1 (back_in Fence.wide 8 trivial rfl a l.length c _)).mono ?_; rintro e w3 ⟨rfl, rfl⟩))
    obtain ⟨W0, hW0⟩ : ∃ W0, W0 = (w2.alloc (.cells #[.map (some w1.heap.size)] 45)).alloc (.cells #[.slice a l.length c] 22) := ⟨_, rfl⟩
    rw [← hW0]
    have hs0 : W0.heap.size = w2.heap.size + 2 := by rw [hW0]; simp
    have hs1 := HS1.out
    have hs2 : w1.heap.size + 1 ≤ w2.heap.size := by have := HS2.out; simpa using this
    have hbel2 : Below w.heap.size w w2 := ⟨HG2.out.os.trans HK1.out.os, HG2.out.tape.trans HK1.out.tape, HG2.out.output.trans HK1.out.output, by omega, fun k hk => (HOLD.out k (by omega)).trans ((HK1.out.block k (by omega) (by omega)).trans ((heap_past _ _ _ (by simp; omega)).trans (heap_past _ _ _ hk)))⟩
    have hbel0 : Below w.heap.size w W0 := by rw [hW0]; exact (hbel2.alloc (by omega) _).alloc (by simp; omega) _
    have hbox0 : W0.heap[w2.heap.size + 1]? = some (.cells #[.slice a l.length c] 22) := by rw [hW0]; exact heap_at _ _ _ (by simp)
    have hI0 : BI l a c w w1.heap.size w2.heap.size [] W0 := by
      refine ⟨⟨?_, ?_, ?_, hbox0, ?_⟩, hbel0⟩
      · have hb2 : Bld (w.heap.size + 1 + 1) (w.heap.size + 1) [0] w2 := by
          refine Bld_kept (HB1.out.below (Below.alloc (Below.refl w1.heap.size w1) (Nat.le_refl _) (.map #[] 0))) HG2.out ?_
          intro r e
          cases e
          exact ⟨_, heap_at _ _ _ rfl, rfl⟩
        have hb3 := hb2.below (Below.alloc (Below.refl w2.heap.size w2) (Nat.le_refl _) (.cells #[.map (some w1.heap.size)] 45))
        have hb4 := hb3.below (Below.alloc (Below.refl _ (w2.alloc (.cells #[.map (some w1.heap.size)] 45))) (Nat.le_refl _) (.cells #[.slice a l.length c] 22))
        rw [hW0]; exact hb4
      · show W0.heap[w.heap.size]? = _
        rw [hW0, heap_past _ _ _ (by simp; omega), heap_past _ _ _ (by omega)]
        exact HBX2.out
      · show W0.heap[w2.heap.size]? = _
        rw [hW0, heap_past _ _ _ (by simp)]
        exact heap_at _ _ _ rfl
      · rw [hW0]
        exact (HO2.out.alloc _).alloc _
    refine (wpIn_wide (n := 9)).1 ?_
    refine wpIn_rangeFunc_ownG (F := Fence.wide) (n := 9) rfl (by omega) (gf := 26) (lb := #[.pointer (some ⟨w2.heap.size + 1, 0, none⟩)]) rfl trivial (enters_of Tryd.func26 (by kernel_rfl) rfl)
      (back_stops Fence.wide 8 trivial rfl (by omega) (w2.heap.size + 1) w a c l hl W0 (by omega) (by rw [Lib.cell_of_heap hbox0]; rfl) HR.out hbel0) (fun h k => h.trans k) ?kb (Below.refl _ _) (fun _ => rfl)
      (BI l a c w w1.heap.size w2.heap.size) (fun _ _ _ => False) (BI_own l a c w _ _ _ (by omega) (by omega)) (fun _ _ _ _ _ hs _ _ => hs) hI0
      (fun x => { tmps := #[.slice a l.length c, .pointer (some ⟨w.heap.size, 0, none⟩), .string ⟨#[]⟩, .slice none 0 0, .int .i64 0, .pointer (some ⟨w.heap.size + 1, 0, none⟩), .pointer (some ⟨w2.heap.size, 0, none⟩), undef, .string (el l x), undef, undef, undef, undef, .slice a l.length c, .bool false, .tuple #[.int .i64 1, .nilIface], .map (some w1.heap.size), .map (some w1.heap.size), .slice a l.length c, .func (.func 26) #[] #[.pointer (some ⟨w2.heap.size + 1, 0, none⟩)], .int .i64 (x : Int), .string (el l x), undef, undef, undef, undef, undef, undef, undef, undef, undef, undef, undef, undef, undef, undef, undef, undef, undef, undef, undef, undef, undef, undef, undef, undef, undef, undef, undef, undef, undef, undef, undef, undef, undef, undef, undef, undef], defers := [] }) ?assign ?body ?done ?stop
    case kb =>
      intro W lo o o' hlo ho hc hw
      exact ⟨belowK_b (w := W0) (by omega) W lo o o' hlo ho hc hw, by rw [World.putObj_heap_other (by omega)]⟩
    case assign =>
      intro lo x W K hK
      gi_wp2
      exact hK
    case body =>
      rintro lo pre x W hJ hlt
      have hsz := el_size hM x
      have hszm : (el l x).size ≤ maxLen := by unfold maxLen; omega
      have hpl : pre.length + 1 < maxLen := by unfold maxLen; omega
      have hJ' := hJ
      obtain ⟨⟨hB, hbx, hth, _, hmap⟩, hBel⟩ := hJ'
      have hlk := lookB hmap (el l x) hszm
      have hc1 := hbx.cell
      have hc2 := hth.cell
      obtain ⟨q1, hq1⟩ : ∃ q1, q1 = decide ((el l x).data.toList ∈ (stT l pre).2) := ⟨_, rfl⟩
      obtain ⟨q2, hq2⟩ : ∃ q2, q2 = l.any (hidB (el l x)) := ⟨_, rfl⟩
      rw [← hq1] at hlk
      have hst : stT l (pre ++ [x]) = (if (!q1 && !q2) = true then (stT l pre).1 ++ ((el l x).data.toList ++ [0]) else (stT l pre).1, (el l x).data.toList :: (stT l pre).2) := by rw [stT_snoc, hq1, hq2]; rfl
      have HST := Lib.hid hst
      have HJ := Lib.hid hJ
      have HH := Lib.hid (fun W h => hidden_m (el l x) l hl (fun s hs => by have := hM s hs; omega) a c W h)
      rw [← hq2] at HH
      have HB := Lib.hid hB
      have HRW := Lib.hid (HR.out.below hBel)
      clear hst hJ hB hbx hth hmap hq1 hq2
      have hin : ∀ T n ss (W3 : World), (stT l (pre ++ [x])) = (T, ss) → n = pre.length + 1 + 1 → BJ l a c w w1.heap.size w2.heap.size T ss n W3 → BI l a c w w1.heap.size w2.heap.size (pre ++ [x]) W3 := by
        intro T n ss W3 h1 h2 h3
        unfold BI
        rw [h1, List.length_append, List.length_singleton, ← h2]
        exact h3
      cases q1
      · obtain ⟨hJ1, hkf1, hkb1⟩ := BJ_alloc W0.heap.size HJ.out (.cells #[.string (el l x)] 9)
        have hc2' := hJ1.1.2.2.1.cell
        have HJ1 := Lib.hid hJ1
        have HKF1 := Lib.hid hkf1
        have HKB1 := Lib.hid hkb1
        clear hJ1 hkf1 hkb1
        have hnl : ¬ (9223372036854775807 < (el l x).size + 1) := by omega
        cases q2
        · have HLEN : Hid ((stT l pre).1.length + ((el l x).data.toList ++ [0]).length ≤ 140737488355328) := Lib.hid (by
            have h := hT (pre ++ [x])
            rw [HST.out] at h
            simpa using h)
          gi_wp2_with (first
            | (refine ⟨trivial, ?_⟩; gi_at_call 16; refine (CallsIn.inRound lo (callsIn_wide.2 (HH.out _ HRW.out))).mono ?_; rintro e W1 ⟨rfl, rfl⟩)
            | (refine ⟨trivial, ?_⟩; gi_at_call 14; rw [cat0]; refine (CallsIn.inRound lo (callsIn_wide.2 (writeString_o (w.heap.size + 1 + 1) (w.heap.size + 1) (stT l pre).1 ((el l x).data.toList ++ [0]) _ HJ1.out.1.1 HLEN.out))).mono ?_; rintro e W2 ⟨rfl, hb2, hk2, ho2⟩; obtain ⟨hJ2, hkf2, hkb2⟩ := BJ_write W0.heap.size HJ1.out hb2 hk2 ho2; obtain ⟨W3, hrun3, hJ3, hkf3, hkb3⟩ := BJ_upd W0.heap.size (by omega) (by omega) hJ2 (el l x) hszm hpl; have hc2'' := hJ2.1.2.2.1.cell; have HJ3 := Lib.hid hJ3; have HKF := Lib.hid ((HKF1.out.trans hkf2).trans hkf3); have HKB := Lib.hid ((HKB1.out.trans hkb2).trans hkb3); clear hb2 hk2 ho2 hJ2 hkf2 hkb2 hJ3 hkf3 hkb3))
          exact ⟨HKF.out, HKB.out, hin _ _ _ _ HST.out rfl HJ3.out⟩
        · obtain ⟨W3, hrun3, hJ3, hkf, hkb⟩ := BJ_upd W0.heap.size (by omega) (by omega) HJ1.out (el l x) hszm hpl
          have HJ3 := Lib.hid hJ3
          have HKF := Lib.hid (HKF1.out.trans hkf)
          have HKB := Lib.hid (HKB1.out.trans hkb)
          clear hJ3 hkf hkb
          gi_wp2_with (first
            | (refine ⟨trivial, ?_⟩; gi_at_call 16; refine (CallsIn.inRound lo (callsIn_wide.2 (HH.out _ HRW.out))).mono ?_; rintro e W1 ⟨rfl, rfl⟩))
          exact ⟨HKF.out, HKB.out, hin _ _ _ _ HST.out rfl HJ3.out⟩
      · obtain ⟨W3, hrun3, hJ3, hkf, hkb⟩ := BJ_upd W0.heap.size (by omega) (by omega) HJ.out (el l x) hszm hpl
        have HJ3 := Lib.hid hJ3
        have HKF := Lib.hid hkf
        have HKB := Lib.hid hkb
        clear hJ3 hkf hkb
        gi_wp2
        refine ⟨trivial, ?_⟩
        gi_wp2
        exact ⟨HKF.out, HKB.out, hin _ _ _ _ HST.out rfl HJ3.out⟩
    case done =>
      rintro D ys W hD rfl hJ hK
      obtain ⟨⟨hB, hbx, hth, _, hmap⟩, hBel⟩ := hJ
      obtain ⟨T, hTT⟩ : ∃ T, T = (stT l (come l.length l.length)).1 := ⟨_, rfl⟩
      rw [← hTT] at hB
      have hbr : buildR l = if 1048576 < T.length then ([], [], 2) else (T, outR T l, 0) := by
        unfold buildR
        rw [if_neg (by rw [← HT.out]; decide), ← hTT]
      have hTs : (⟨T.toArray⟩ : ByteArray).size = T.length := rfl
      have HB := Lib.hid hB
      have HBX := Lib.hid hbx
      have HBel := Lib.hid hBel
      have HK := Lib.hid hK
      clear hTT hB hbx hth hmap hBel hK
      by_cases hbig2 : 1048576 < T.length
      · have HBR := Lib.hid (hbr.trans (if_pos hbig2))
        clear hbr
        have hgt : (1048576 : Int) < (T.length : Int) := by omega
        go_wp2_with (first
          | (go_at_call 17; refine (Tryd.Builder_String_any_k (w.heap.size + 1) (w.heap.size + 1) T _ (Lib.IsBuilderF.of HB.out.is) (by have := HB.out.2.1; omega)).mono ?_; rintro e WS ⟨rfl, _, hbS, hoS⟩; have HKS := Lib.hid (hoS D _ HK.out (by intro e; cases e; omega) (by intro _ _ e; cases e)); have HBS := Lib.hid hbS; clear hbS hoS))
        refine ⟨by simp, .inl ⟨_, _, rfl, run_takeDeferred HKS.out, ?_⟩⟩
        refine ⟨_, results_tmp3 rfl _ _ _, ⟨_, by rw [HBR.out]; rfl, ?_⟩, ?_⟩
        · rw [HBR.out]; exact World.ownsRow_nil _ _ _ _
        · exact (HBel.out.trans (HBS.out.mono (Nat.le_succ _))).trans (belowK_b (w := w) (Nat.le_refl _) WS D _ _ (by omega) HKS.out rfl rfl)
      · have HBR := Lib.hid (hbr.trans (if_neg hbig2))
        clear hbr
        have hgt : ¬ (1048576 : Int) < (T.length : Int) := by omega
        go_wp2_with (first
          | (go_at_call 17; refine (Tryd.Builder_String_any_k (w.heap.size + 1) (w.heap.size + 1) T _ (Lib.IsBuilderF.of HB.out.is) (by have := HB.out.2.1; omega)).mono ?_; rintro e WS ⟨rfl, _, hbS, hoS⟩; have HKS := Lib.hid (hoS D _ HK.out (by intro e; cases e; omega) (by intro _ _ e; cases e)); have HBS := Lib.hid hbS; have hcS : WS.cell? ⟨w.heap.size, 0, none⟩ = some (.slice a l.length c) := (hbS.cell (p := ⟨w.heap.size, 0, none⟩) (Nat.lt_succ_self _)).trans HBX.out.cell; clear hbS hoS))
        have hBelS : Below w.heap.size w WS := HBel.out.trans (HBS.out.mono (Nat.le_succ _))
        have hmS : WS.cell? ⟨0, 0, none⟩ = some (.int .i64 mx) := (hBelS.cell (p := ⟨0, 0, none⟩) (cell_lt HM.out)).trans HM.out
        have HMS := Lib.hid hmS
        have HRS := Lib.hid (HR.out.below hBelS)
        have HBelS := Lib.hid hBelS
        clear hBelS hmS
        obtain ⟨i0, hi, hz0, hz1, hz2⟩ := info_parts Tryd.infoU64
        go_loopw [10, 43] (fun o i wr => ∃ k : Nat, k ≤ l.length ∧ i = .int .i64 k ∧ Hid (wr.ownsRow WS.heap.size 30 1 o k ((outR T (l.take k)).map (Value.int .u64))) ∧ Hid (Below WS.heap.size WS wr)) (fun _ i _ => l.length - (intOf i).toNat)
        case atStart => exact ⟨0, Nat.zero_le _, rfl, Lib.hid (World.ownsRow_nil _ _ _ _), Lib.hid (Below.refl _ _)⟩
        case round =>
          obtain ⟨k, hk, rfl, HO, HBW⟩ := hrel
          by_cases hlt2 : k < l.length
          · obtain ⟨m, hm⟩ : ∃ m, m = l[k] := ⟨_, rfl⟩
            obtain ⟨b0, o0, hbo, hcl⟩ := (HRS.out.below HBW.out).at (by rw [List.length_map]; omega)
            subst hbo
            have q0 := hcl k (.string m) (by rw [List.getElem?_map, List.getElem?_eq_getElem hlt2, hm]; rfl)
            have hmz : m.size ≤ M := by rw [hm]; exact hM _ (List.getElem_mem hlt2)
            have hnl2 : ¬ (9223372036854775807 < m.size + 1) := by omega
            have HM2 := Lib.hid hm
            clear hcl hm
            obtain ⟨z, hz⟩ : ∃ z, z = Lib.index T (m.data.toList ++ [0]) := ⟨_, rfl⟩
            have HI : Hid (∀ W, W.cell? ⟨0, 0, none⟩ = some (.int .i64 mx) → Calls Tryd.prog 18 #[.string ⟨T.toArray⟩, .string (m ++ (⟨#[0]⟩ : ByteArray))] W fun e w' => e = .returned (.int .i64 z) ∧ w' = W) := Lib.hid (fun W h => by
              have := Tryd.strings_Index ⟨T.toArray⟩ (m ++ (⟨#[0]⟩ : ByteArray)) mx W (by show T.length < _; omega) h
              rw [cat0] at this ⊢
              rw [hz]
              simpa using this)
            have HZ := Lib.hid hz
            clear hz
            go_wp2_with (first
              | (go_at_call 18; refine (HI.out _ ((HBW.out.cell (p := ⟨0, 0, none⟩) (cell_lt HMS.out)).trans HMS.out)).mono ?_; rintro e w' ⟨rfl, rfl⟩)
              | (at_builtin; refine wpList_append_own _ rfl _ _ 24 rfl WS.heap.size 30 i0 (.int .u64 0) 1 8 Tryd.underlying24 hi hz0 hz1 hz2 rfl (by decide) _ _ _ rfl (HO.out.alloc _) ⟨w'.heap.size, 0, none⟩ 1 1 [.int .u64 (IntKind.u64.wrap z)] rfl rfl ?c1 ?c2 ?c3 ?c4 ?c5 ?_))
            case c1 => exact new_cells _ _ [_] _ (by simp)
            case c2 => intro u hu; simp at hu; subst hu; rfl
            case c3 => unfold maxLen; omega
            case c4 => omega
            case c5 => have := HBW.out.size; simp; omega
            intro v' w1' hown' hgrow _
            have hb1 : Below WS.heap.size WS w1' := below_own (HBW.out.alloc HBW.out.size _) HO.out hgrow (by have := HBW.out.size; simp; omega) (by omega)
            have HOW := Lib.hid hown'
            have HB1 := Lib.hid hb1
            clear hown' hgrow hb1
            go_wp2
            go_roundw
            case rel =>
              refine ⟨k + 1, by omega, by go_num, ?_, HB1⟩
              refine Lib.hid ?_
              have := HOW.out
              unfold outR
              rw [List.take_succ_eq_append_getElem hlt2, List.map_append, List.map_append, ← HM2.out]
              simpa [outR, HZ.out] using this
            case measure => simp [intOf]; omega
          · obtain rfl : k = l.length := by omega
            go_wp2
            have hDS : D < WS.heap.size := (Array.getElem?_eq_some_iff.1 HKS.out).1
            have hKw := (HBW.out.block D hDS).trans HKS.out
            refine ⟨by simp, .inl ⟨_, _, rfl, run_takeDeferred hKw, ?_⟩⟩
            refine ⟨_, results_tmp3 rfl _ _ _, ⟨_, by rw [HBR.out]; rfl, ?_⟩, ?_⟩
            · rw [HBR.out]
              have h1 := ownsRow_putObj HO.out (.deferred none) hKw rfl
              rw [List.take_length] at h1
              have h2 := ownsRow_mono h1 HBelS.out.size
              simpa [outR] using h2
            · exact (HBelS.out.trans (HBW.out.mono HBelS.out.size)).trans (belowK_b (w := w) (Nat.le_refl _) wr D _ _ (by omega) hKw rfl rfl)
    case stop =>
      rintro D cc pre W _ _ h _
      exact h.elim
  · go_wp2_with (first | (go_at_call 11; refine (HD.out _ (HR.out.alloc _)).mono ?_; rintro e w1 ⟨rfl, rfl⟩))
    have hR : buildR l = ([], [], 12) := by unfold buildR; rw [if_pos HT.out.symm]
    rw [hR]
    refine ⟨_, results_tmp3 rfl _ _ _, ⟨_, rfl, ?_⟩, ?_⟩
    · exact World.ownsRow_nil _ _ _ _
    · exact (Below.refl _ _).alloc (Nat.le_refl _) _
theorem le_total : ∀ (l : List ByteArray), ∀ s ∈ l, s.size ≤ total l
  | [], s, h => by cases h
  | x :: r, s, h => by
    unfold total
    rw [List.map_cons, List.sum_cons]
    rcases List.mem_cons.1 h with h | h
    · subst h; omega
    · have := le_total r s h
      unfold total at this
      omega
theorem build_k2 (l : List ByteArray) (hl : l.length ≤ 1000000) (ht : 1 + total l ≤ 140737488355328) (a : Option Addr) (c : Nat) (w : World) (hr : Rd w a (l.map Value.string)) (hm : MaxAt w) :
    Calls Tryd.prog 6 #[.slice a l.length c] w fun e w' => (∃ v, e = .returned (.tuple #[.string ⟨(buildR l).1.toArray⟩, v, .int .i64 (buildR l).2.2]) ∧ w'.ownsRow w.heap.size 30 1 v (buildR l).2.1.length ((buildR l).2.1.map (Value.int .u64))) ∧ Below w.heap.size w w' := by
  obtain ⟨m, hm⟩ := hm
  exact build_m2 l hl (total l) (le_total l) (fun pre => Nat.le_trans (stT_total l pre) ht) (by omega) a c w hr m hm
end Go.Proofs.YtolgilamchadfaaDoor

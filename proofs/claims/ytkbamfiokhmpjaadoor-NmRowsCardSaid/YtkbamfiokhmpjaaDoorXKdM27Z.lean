/- NmRows: the plain law. -/
import Derived.Test.YtkbamfiokhmpjaaDoorXKdM27P
import Derived.Maps.OwnIn
import Derived.Maps.Views
import Derived.Maps.OwnSet
import Derived.Laws.Cover1
namespace Go.Proofs.YtkbamfiokhmpjaaDoor
set_option linter.unusedVariables false
set_option linter.unusedSimpArgs false
open Go.RowKit Go.Proofs.YtkbamfiokhmpjaaDoorX.Kd Go.Proofs.YtkbamfiokhmpjaaDoorW.PrintWords Go.Proofs.YtkbamfiokhmpjaaDoorW.PrintLast Go.Proofs.YtkbamfiokhmpjaaDoorW.PrintMore

def cntB (LL : List S88) (d u x : Bool) (s : S37) : Bool := optB d u x (symT s) (letB LL (symT s))
/-- How many symbols are asked for. -/
def wantN (LL : List S88) (d u x : Bool) (l : List S37) : Nat := (l.filter (cntB LL d u x)).length
theorem wantN_snoc (LL : List S88) (d u x : Bool) (l : List S37) (s : S37) : wantN LL d u x (l ++ [s]) = wantN LL d u x l + (if cntB LL d u x s = true then 1 else 0) := by
 unfold wantN
 rw [List.filter_append, List.length_append, List.filter_cons]
 split <;> rfl
theorem wantN_le (LL : List S88) (d u x : Bool) (l : List S37) : wantN LL d u x l ≤ l.length := List.length_filter_le _ _
theorem filterMap_len {α β : Type} (c : α → Bool) (g : α × Nat → β) : ∀ (l : List α) (n : Nat), ((l.zipIdx n).filterMap (fun p => if c p.1 = true then some (g p) else none)).length = (l.filter c).length
 |[], n => rfl
 |a :: l, n => by
  rw [List.zipIdx_cons, List.filterMap_cons, List.filter_cons]
  have ih := filterMap_len c g l (n + 1)
  by_cases h : c a = true
  ·simp only [if_pos h, List.length_cons, ih]
  ·simp only [if_neg h, ih]
theorem rowsS_want (LL : List S88) (d u x : Bool) (l : List S37) : (rowsS LL d u x (l.map symT)).length = wantN LL d u x l := by
 unfold rowsS wantN
 rw [filterMap_len (fun s => optB d u x s (letB LL s)) (fun p => rowOf LL p.1 p.2) (l.map symT) 0, List.filter_map, List.length_map]
 rfl
theorem row_is (LL : List S88) (d u x : Bool) (l : List S37) (i : Nat) (h : i < (sortRows (rowsS LL d u x (l.map symT))).length) : ∃ (j : Nat) (hj : j < l.length), (sortRows (rowsS LL d u x (l.map symT)))[i] = rowOf LL (symT l[j]) j ∧ cntB LL d u x l[j] = true := by
 obtain ⟨s, j, hs, hr, ho⟩ := rowsS_in ((rows_perm LL d u x (l.map symT)).1.mem_iff.1 (List.getElem_mem h))
 rw [List.getElem?_map] at hs
 obtain ⟨s0, hs0, rfl⟩ := Option.map_eq_some_iff.1 hs
 obtain ⟨hj, rfl⟩ := List.getElem?_eq_some_iff.1 hs0
 exact ⟨j, hj, hr, ho⟩
theorem rows_nodup (LL : List S88) (d u x : Bool) (l : List S50) : ((sortRows (rowsS LL d u x l)).map (·.f4)).Nodup := by
 refine ((rows_perm LL d u x l).1.map (·.f4)).nodup_iff.2 ?_
 refine List.pairwise_map.2 ((rowsS_tags LL d u x l).1.imp ?_)
 intro a b h he
 rw [he] at h
 exact Nat.lt_irrefl _ h
theorem nodup_take {α : Type} {l : List α} (h : l.Nodup) (i : Nat) (hi : i < l.length) : l[i] ∉ l.take i := by
 intro hm
 obtain ⟨j, hj, he⟩ := List.getElem_of_mem hm
 rw [List.getElem_take] at he
 rw [List.length_take] at hj
 exact (List.pairwise_iff_getElem.1 h) j i (by omega) hi (by omega) he
theorem rowlt_tests {x y : S64} (h : RowLt x y) (hx : 0 ≤ x.f4) (hy : 0 ≤ y.f4) : Op.bytesLess y.f3.toList x.f3.toList = false ∧ ((x.f3.toList == y.f3.toList) = true → decide (y.f4 < x.f4) = false) := by
 rcases h with h | ⟨h1, h2⟩
 ·rw [Go.Proofs.bytesLess_eq, decide_eq_true_eq] at h
  constructor
  ·rw [Go.Proofs.bytesLess_eq, decide_eq_false_iff_not]
   exact fun h2 => List.lt_irrefl _ (List.lt_trans h h2)
  ·intro he
   rw [eq_of_beq he] at h
   exact absurd h (List.lt_irrefl _)
 ·exact ⟨h1, fun _ => by rw [decide_eq_false_iff_not]; omega⟩
theorem bl_total {a b : List UInt8} (h1 : Op.bytesLess b a = false) (h2 : (a == b) = false) : Op.bytesLess a b = true := by
 rw [Go.Proofs.bytesLess_eq] at h1 ⊢
 rw [decide_eq_false_iff_not] at h1
 rw [decide_eq_true_eq]
 have h3 : a ≤ b := Std.not_lt.1 h1
 exact Std.lt_of_le_of_ne h3 (fun e => by rw [e] at h2; simp at h2)
/-- The map of the places that were seen, as a datum. -/
def seenD : List Int → DataW Unit
 |[] => .map []
 |s :: r => (seenD r).put (.int .i64 s) (.lit (.bool true))
theorem seenD_isMap : ∀ ss, Maps.IsMap (seenD ss)
 |[] => Maps.isMap_empty
 |s :: r => (seenD_isMap r).put _ _
theorem seen_at (s : Int) : ∀ ss : List Int, (seenD ss).atKey (.int .i64 s) (.lit (.bool false)) = .lit (.bool (decide (s ∈ ss)))
 |[] => rfl
 |x :: r => by
  unfold seenD
  by_cases h : s = x
  ·subst h
   rw [Maps.atKey_put_same (seenD_isMap r) (by simp [WideAt.IsKeyLit])]
   simp
  ·rw [Maps.atKey_put_other (fun e => h (by injection e)), seen_at s r]
   simp [h]
theorem i64_wf (x : Int) (h0 : -9223372036854775808 ≤ x) (h1 : x ≤ 9223372036854775807) : (Lit.int .i64 x).wf = true := by
 simp [Lit.wf, IntKind.min, IntKind.max, IntKind.signed, IntKind.bits]; omega
theorem seen_look {W : World} {b n : Nat} {ss : List Int} (h : W.ownsMap Tryd.prog 3 (plainElem (H := Unit) Tryd.prog 4) b n (seenD ss)) (x : Int) (h0 : -9223372036854775808 ≤ x) (h1 : x ≤ 9223372036854775807) :
  (Instr.lookup 62 (.map (some b)) (.int .i64 x) false).run Tryd.prog W = .ok (.bool (decide (x ∈ ss))) W := by
 obtain ⟨v, ps, hrun, hv⟩ := h.lookup (Maps.int_keyed Tryd.underlying3) Tryd.underlying62 (Tryd.zeroValue4 W) (plainElem_bool Tryd.underlying4 false) (Maps.keyOf_int_mk Tryd.underlying3 (i64_wf x h0 h1))
 rw [seen_at] at hv
 rw [hrun]
 cases v <;> simp [plainElem, Tryd.underlying4] at hv
 rw [hv.1]
theorem seen_upd {W : World} {b n : Nat} {ss : List Int} (h : W.ownsMap Tryd.prog 3 (plainElem (H := Unit) Tryd.prog 4) b n (seenD ss)) (x : Int) (h0 : -9223372036854775808 ≤ x) (h1 : x ≤ 9223372036854775807) (hn : n < maxLen) :
  ∃ W3, (Instr.mapUpdate 62 (.map (some b)) (.int .i64 x) (.bool true)).run Tryd.prog W = .ok () W3 ∧ W3.ownsMap Tryd.prog 3 (plainElem (H := Unit) Tryd.prog 4) b (n + 1) (seenD (x :: ss)) ∧ W.grownBy W3 (some b) := by
 obtain ⟨W3, hrun3, hown3, hg3⟩ := h.update (Maps.int_keyed Tryd.underlying3) Tryd.underlying62 hn (Maps.keyOf_int_mk Tryd.underlying3 (i64_wf x h0 h1)) (plainElem_bool Tryd.underlying4 true)
 exact ⟨W3, hrun3, hown3, hg3⟩
theorem owns_below {P : Program} {k : TypeId} {R : Value → Option (DataW Unit × List MemPlace)} {b n : Nat} {D : DataW Unit} {W W' : World} (h : W.ownsMap P k R b n D) (hb : Below W.heap.size W W') : W'.ownsMap P k R b n D := by
 obtain ⟨es, clock, h4, h5⟩ := h
 exact ⟨es, clock, blk_below h4 hb, h5⟩
theorem owns_lt {P : Program} {k : TypeId} {R : Value → Option (DataW Unit × List MemPlace)} {b n : Nat} {D : DataW Unit} {W : World} (h : W.ownsMap P k R b n D) : b < W.heap.size := by
 obtain ⟨es, clock, h4, h5⟩ := h
 exact blk_lt h4
theorem allD_succ (L : List S61) (k : Nat) (h : k < L.length) : allD (L.take (k + 1)) = allD (L.take k) ++ symsD L[k] := by
 unfold allD
 rw [List.take_succ_eq_append_getElem h, List.flatMap_append, List.flatMap_singleton]
theorem allD_take_le (L : List S61) (k : Nat) : (allD (L.take k)).length ≤ (allD L).length := by
 have h : allD L = allD (L.take k) ++ allD (L.drop k) := by unfold allD; rw [← List.flatMap_append, List.take_append_drop]
 rw [h, List.length_append]; omega
theorem allD_ok (fl : Int) (ps : List S70) (ys : List S72) (rs : List S78) : ∀ s ∈ allD (madeSecs fl ps ys rs), okY s := by
 intro s hs
 obtain ⟨c, hc, hsc⟩ := List.mem_flatMap.1 hs
 unfold symsD at hsc
 split at hsc
 ·exact (made_ok _ _ _ _ c hc).2 s (List.drop_subset 1 c.f10 hsc)
 ·cases hsc
theorem made_sym (fl : Int) (ps : List S70) (ys : List S72) (rs : List S78) : ∀ c ∈ madeSecs fl ps ys rs, c.f1 = 2 → 0 < c.f10.length := by
 intro x hx h2
 unfold madeSecs at hx
 rcases List.mem_append.1 hx with hx | hx
 ·unfold sectionsR at hx
  rcases List.mem_append.1 hx with hx | hx
  ·simp only [List.mem_cons, List.not_mem_nil, or_false] at hx
   rcases hx with rfl | rfl
   ·exact absurd h2 (by decide)
   ·exact absurd h2 (by decide)
  ·obtain ⟨y, _, rfl⟩ := List.mem_map.1 hx
   exact absurd h2 (kindL_ne _)
 ·split at hx
  ·unfold moreSecs at hx
   dsimp only at hx
   rcases List.mem_append.1 hx with hx | hx
   ·rcases List.mem_append.1 hx with hx | hx
    ·rcases List.mem_append.1 hx with hx | hx
     ·rcases List.mem_append.1 hx with hx | hx
      ·split at hx
       ·simp only [List.mem_cons, List.not_mem_nil, or_false] at hx; subst hx; exact absurd h2 (by decide)
       ·cases hx
      ·simp only [List.mem_cons, List.not_mem_nil, or_false] at hx; subst hx
       show 0 < (symbolsR ys _).length
       unfold symbolsR
       simp
     ·split at hx
      ·simp only [List.mem_cons, List.not_mem_nil, or_false] at hx; subst hx
       exact absurd h2 (by show ¬ (if flagB fl 8 = true then (4 : Int) else 9) = 2; split <;> decide)
      ·cases hx
    ·split at hx
     ·simp only [List.mem_cons, List.not_mem_nil, or_false] at hx; subst hx; exact absurd h2 (show ¬ (17 : Int) = 2 by decide)
     ·cases hx
   ·split at hx
    ·simp only [List.mem_cons, List.not_mem_nil, or_false] at hx; subst hx; exact absurd h2 (show ¬ (18 : Int) = 2 by decide)
    ·cases hx
  ·cases hx
theorem u64_and15 (n : Int) (h0 : 0 ≤ n) (h1 : n < 16) : bits .and .u64 n 15 = n := by
 have hm : (BitVec.ofInt 64 15).toNat = 2 ^ 4 - 1 := by decide
 have key : (BitVec.ofInt 64 n &&& BitVec.ofInt 64 15).toNat = (n % ((2 ^ 64 : Nat) : Int)).toNat % 2 ^ 4 := by
  rw [BitVec.toNat_and, BitVec.toNat_ofInt, hm, Nat.and_two_pow_sub_one_eq_mod]
 show IntKind.u64.wrap ((BitVec.ofInt 64 n &&& BitVec.ofInt 64 15).toNat : Nat) = n
 rw [key, IntKind.wrap_u64]
 omega
theorem bind_plan (s : S37) (h : okY s) : bindR (symT s) = s.f1 / 16 ∧ 0 ≤ s.f1 / 16 := by
 have h1 := h.1
 refine ⟨?_, by omega⟩
 show bits .and .u64 (s.f1 / 16) 15 = _
 exact u64_and15 _ (by omega) (by omega)
end Go.Proofs.YtkbamfiokhmpjaaDoor

/- NmRows' walk. -/
namespace Go.Proofs.YtkbamfiokhmpjaaDoor
set_option linter.unusedVariables false
set_option linter.unusedSimpArgs false
open Go.RowKit Go.Proofs.YtkbamfiokhmpjaaDoorX.Kd Go.Proofs.YtkbamfiokhmpjaaDoorW.PrintWords Go.Proofs.YtkbamfiokhmpjaaDoorW.PrintLast Go.Proofs.YtkbamfiokhmpjaaDoorW.PrintMore

theorem hi10_some {α : Type} {d : Kd α} {w : World} {A : Option Addr} {xs : List α} (h : d.C w A xs.length xs) (hp : 0 < xs.length) : ∃ bd, A = some bd ∧ True := by
 obtain ⟨bd, hb, _⟩ := h.2.2 hp
 exact ⟨bd, hb, trivial⟩
set_option maxRecDepth 100000 in
set_option maxHeartbeats 32000000 in
theorem rows_walk (z : S27) (hz : okP z) (cs : List Value) (fl : Int) (w : World) (h0 : k27.K w z cs) (ht : Tabs w) :
  Calls Tryd.prog 4 #[.agg cs.toArray, .int .i64 fl] w fun e w' => e = .returned (.bool true) ∧ Below w.heap.size w w' := by
 obtain ⟨a01, c01, a02, c02, a03, c03, a04, c04, rfl, g1, g2, g3, g4⟩ := k27_open h0
 have H0 := Lib.hid (And.intro g1 (And.intro g2 (And.intro g3 g4)))
 have HT := Lib.hid ht
 obtain ⟨o1, ho1⟩ : ∃ o, o = (bits .and .i64 fl 1 == 1) := ⟨_, rfl⟩
 obtain ⟨o2, ho2⟩ : ∃ o, o = (bits .and .i64 fl 2 == 2) := ⟨_, rfl⟩
 obtain ⟨o4, ho4⟩ : ∃ o, o = (bits .and .i64 fl 4 == 4) := ⟨_, rfl⟩
 replace ho1 := ho1.symm
 replace ho2 := ho2.symm
 replace ho4 := ho4.symm
 clear g1 g2 g3 g4 ht h0
 go_enter Tryd.func4, Tryd.ntmps4
 go_upto_region 3 with (first | (go_at_call 6; refine (speaks_any _ (HT.out.below (below_alloc (Below.refl _ _) _))).mono ?_; rintro e w1 ⟨rfl, hb1⟩; have HB1 := Lib.hid hb1; clear hb1))
 have HP1 := Lib.hid (show w1.heap[w.heap.size]? = some (.cells #[.int .i64 z.f0, .slice a01 z.f1.length c01, .slice a02 z.f2.length c02, .slice a03 z.f3.length c03, .slice a04 z.f4.length c04] 27 (0, 0)) ∧ Below w.heap.size w w1 from by
  have h0 := blk_new w (.cells #[.int .i64 z.f0, .slice a01 z.f1.length c01, .slice a02 z.f2.length c02, .slice a03 z.f3.length c03, .slice a04 z.f4.length c04] 27)
  exact ⟨blk_below h0 HB1.out, (below_alloc (Below.refl w.heap.size w) _).trans (HB1.out.mono (by simp))⟩)
 clear HB1 HT
 have p0 := (blk_cell (HP1.out.1) 0).trans rfl; have p1 := (blk_cell (HP1.out.1) 1).trans rfl; have p2 := (blk_cell (HP1.out.1) 2).trans rfl; have p3 := (blk_cell (HP1.out.1) 3).trans rfl; have p4 := (blk_cell (HP1.out.1) 4).trans rfl
 go_upto_region 4 with (first
  |(go_at_call 7; refine (made_z z hz a01 a02 a03 a04 c01 c02 c03 c04 _ (Kd.C_below H0.out.1 HP1.out.2) (Kd.C_below H0.out.2.1 HP1.out.2) (Kd.C_below H0.out.2.2.1 HP1.out.2) (Kd.C_below H0.out.2.2.2 HP1.out.2)).mono ?_; rintro e w2 ⟨v2, rfl, hM, hB2⟩; obtain ⟨A9, c9, A10, c10, rfl, h9, h10⟩ := hM; have HM2 := Lib.hid (show MDv z w2 _ from ⟨A9, c9, A10, c10, rfl, h9, h10⟩); have H9 := Lib.hid h9; have HB2 := Lib.hid (HP1.out.2.trans (hB2.mono HP1.out.2.size)); clear h9 h10 hB2))
 clear p0 p1 p2 p3 p4 HP1 H0
 obtain ⟨wa, hwa⟩ : ∃ wa, wa = w2.alloc (.cells #[.bool (flagB z.f0 2), .bool (flagB z.f0 1), .int .u8 3, .int .u8 0, .int .u64 1, .int .u64 243, .int .u64 16, .int .u64 5, .int .u64 1, .slice A9 (madeSecs z.f0 z.f1 z.f2 z.f3).length c9, .slice A10 (segsR z.f4).length c10] 34) := ⟨_, rfl⟩
 obtain ⟨g0, hg0⟩ : ∃ g0, g0 = w2.heap.size := ⟨_, rfl⟩
 have HG0 := Lib.hid (show wa.heap[g0]? = some (.cells #[.bool (flagB z.f0 2), .bool (flagB z.f0 1), .int .u8 3, .int .u8 0, .int .u64 1, .int .u64 243, .int .u64 16, .int .u64 5, .int .u64 1, .slice A9 (madeSecs z.f0 z.f1 z.f2 z.f3).length c9, .slice A10 (segsR z.f4).length c10] 34 (0, 0)) from by rw [hwa, hg0]; exact blk_new w2 _)
 have HBa := Lib.hid (show Below w2.heap.size w2 wa from by rw [hwa]; exact below_alloc (Below.refl _ _) _)
 rw [← hwa, ← hg0]
 have HMa := Lib.hid (HM2.out.below HBa.out)
 have HSa := Lib.hid (Kd.C_below H9.out HBa.out)
 have HBw := Lib.hid (HB2.out.trans (HBa.out.mono HB2.out.size))
 clear hwa hg0 HM2 H9 HB2 HBa
 have m0 := (blk_cell (HG0.out) 0).trans rfl; have m1 := (blk_cell (HG0.out) 1).trans rfl; have m2 := (blk_cell (HG0.out) 2).trans rfl; have m3 := (blk_cell (HG0.out) 3).trans rfl; have m4 := (blk_cell (HG0.out) 4).trans rfl; have m5 := (blk_cell (HG0.out) 5).trans rfl; have m6 := (blk_cell (HG0.out) 6).trans rfl; have m7 := (blk_cell (HG0.out) 7).trans rfl; have m8 := (blk_cell (HG0.out) 8).trans rfl; have m9 := (blk_cell (HG0.out) 9).trans rfl; have m10 := (blk_cell (HG0.out) 10).trans rfl
 go_upto_region 6 with (first
  |(go_at_call 9; refine (told_z z _ _ HMa.out).mono ?_; rintro e w3 ⟨u3, rfl, hT3, hB3⟩; obtain ⟨B9, d9, B10, d10, rfl, h9, h10⟩ := hT3; have HT3 := Lib.hid (show TDv z w3 _ from ⟨B9, d9, B10, d10, rfl, h9, h10⟩); have HB3 := Lib.hid hB3; clear h9 h10 hB3))
 clear m0 m1 m2 m3 m4 m5 m6 m7 m8 m9 m10 ho1 ho2 ho4
 obtain ⟨wb, hwb⟩ : ∃ wb, wb = (w3.alloc (.cells #[.bool (flagB z.f0 1), .bool (flagB z.f0 2), .int .u8 3, .int .u8 0, .string ⟨#[]⟩, .int .u64 1, .int .u64 243, .int .u64 16, .int .u64 5, .int .u64 1, .slice B9 (PM z).L.length d9, .slice B10 (PM z).D.length d10] 48)).alloc (.cells #[.bool o1, .bool o2, .bool o4] 54) := ⟨_, rfl⟩
 obtain ⟨g1, hg1⟩ : ∃ g1, g1 = w3.heap.size := ⟨_, rfl⟩
 obtain ⟨g2, hg2⟩ : ∃ g2, g2 = w3.heap.size + 1 := ⟨_, rfl⟩
 have HM5 := Lib.hid (show wb.heap[g1]? = some (.cells #[.bool (flagB z.f0 1), .bool (flagB z.f0 2), .int .u8 3, .int .u8 0, .string ⟨#[]⟩, .int .u64 1, .int .u64 243, .int .u64 16, .int .u64 5, .int .u64 1, .slice B9 (PM z).L.length d9, .slice B10 (PM z).D.length d10] 48 (0, 0)) ∧ wb.heap[g2]? = some (.cells #[.bool o1, .bool o2, .bool o4] 54 (0, 0)) from by
  have h1 := blk_new (w3.alloc (.cells #[.bool (flagB z.f0 1), .bool (flagB z.f0 2), .int .u8 3, .int .u8 0, .string ⟨#[]⟩, .int .u64 1, .int .u64 243, .int .u64 16, .int .u64 5, .int .u64 1, .slice B9 (PM z).L.length d9, .slice B10 (PM z).D.length d10] 48)) (.cells #[.bool o1, .bool o2, .bool o4] 54)
  rw [World.size_alloc, ← hwb, ← hg2] at h1
  exact ⟨by rw [hwb, hg1]; exact blk_alloc (blk_new w3 _) _, h1⟩)
 have HBb := Lib.hid (show Below w3.heap.size w3 wb from by rw [hwb]; exact below_alloc (below_alloc (Below.refl _ _) _) _)
 rw [← hwb, ← hg2, ← hg1]
 have HTb := Lib.hid (HT3.out.below HBb.out)
 have HBab := Lib.hid (HB3.out.trans (HBb.out.mono HB3.out.size))
 clear hwb hg1 hg2 HT3 HB3 HBb
 have t0 := (blk_cell (HM5.out.1) 0).trans rfl; have t1 := (blk_cell (HM5.out.1) 1).trans rfl; have t2 := (blk_cell (HM5.out.1) 2).trans rfl; have t3 := (blk_cell (HM5.out.1) 3).trans rfl; have t4 := (blk_cell (HM5.out.1) 4).trans rfl; have t5 := (blk_cell (HM5.out.1) 5).trans rfl; have t6 := (blk_cell (HM5.out.1) 6).trans rfl; have t7 := (blk_cell (HM5.out.1) 7).trans rfl; have t8 := (blk_cell (HM5.out.1) 8).trans rfl; have t9 := (blk_cell (HM5.out.1) 9).trans rfl; have t10 := (blk_cell (HM5.out.1) 10).trans rfl; have t11 := (blk_cell (HM5.out.1) 11).trans rfl
 have o_0 := (blk_cell (HM5.out.2) 0).trans rfl; have o_1 := (blk_cell (HM5.out.2) 1).trans rfl; have o_2 := (blk_cell (HM5.out.2) 2).trans rfl
 go_upto_region 7 with (first
  |(go_at_call 11; refine (rows_t z o1 o2 o4 _ _ HTb.out).mono ?_; rintro e w4 ⟨v4, rfl, hR4, hB4⟩; obtain ⟨A1, c1, rfl, l1, hC1⟩ := Kd.R_reads hR4; have HC1 := Lib.hid hC1; have HB4 := Lib.hid hB4; clear hR4 hB4 hC1))
 clear t0 t1 t2 t3 t4 t5 t6 t7 t8 t9 t10 t11 o_0 o_1 o_2
 -- what stands at w4
 have HW4 := Lib.hid (HBw.out.trans ((HBab.out.trans (HB4.out.mono HBab.out.size)).mono HBw.out.size))
 have HG4 := Lib.hid (And.intro (blk_below (blk_below HG0.out HBab.out) HB4.out) (blk_below HM5.out.2 HB4.out))
 have HM4 := Lib.hid ((HMa.out.below HBab.out).below HB4.out)
 have HS4 := Lib.hid (Kd.C_below (Kd.C_below HSa.out HBab.out) HB4.out)
 clear HBw HBab HB4 HG0 HM5 HMa HSa HTb
 have HOKY := Lib.hid (allD_ok z.f0 z.f1 z.f2 z.f3)
 have HALN := Lib.hid (allD_len z.f0 z.f1 z.f2 z.f3)
 have HLL := Lib.hid (madeSecs_len z.f0 z.f1 z.f2 z.f3)
 have HIN := Lib.hid (madeSecs_in z.f0 z.f1 z.f2 z.f3)
 have HSY := Lib.hid (made_sym z.f0 z.f1 z.f2 z.f3)
 have hPL : symsL (PM z).L = (allD (madeSecs z.f0 z.f1 z.f2 z.f3)).map symT := symsL_secT _
 rw [hPL] at HC1 l1 ⊢
 clear hPL
 obtain ⟨LS, hLS⟩ : ∃ LS, LS = madeSecs z.f0 z.f1 z.f2 z.f3 := ⟨_, rfl⟩
 rw [← hLS] at HC1 l1 HG4 HM4 HS4 HOKY HALN HLL HIN HSY ⊢
 obtain ⟨AL, hAL⟩ : ∃ AL, AL = allD LS := ⟨_, rfl⟩
 rw [← hAL] at HC1 l1 HOKY HALN ⊢
 have HAL := Lib.hid hAL
 clear hAL hLS
 obtain ⟨xs, hxs⟩ : ∃ xs, xs = sortRows (rowsS (PM z).L o1 o2 o4 (AL.map symT)) := ⟨_, rfl⟩
 rw [← hxs] at HC1 l1 ⊢
 have HXS := Lib.hid hxs
 clear hxs
 go_wp2
 go_loopw [9, 10] (fun v i wr => ∃ k : Nat, k ≤ LS.length ∧ i = .int .i64 k ∧ Hid (Kd.R k37 37 wr w4.heap.size (fun _ => True) v (allD (LS.take k)) ∧ Below w4.heap.size w4 wr)) (fun _ i _ => LS.length - (intOf i).toNat)
 case atStart => exact ⟨0, Nat.zero_le _, rfl, Lib.hid ⟨Kd.R_nil _ _ _ _ _, Below.refl _ _⟩⟩
 case round =>
  obtain ⟨k, hk, rfl, HR⟩ := hrel
  have q9 := (blk_cell (blk_below HG4.out.1 HR.out.2) 9).trans rfl
  by_cases hlt : k < LS.length
  ·obtain ⟨ad, B10, e10, B11, e11, B12, e12, hA, hx0, hx1, hx2, hx3, hx4, hx5, hx6, hx7, hx8, hx9, hx10, hx11, hx12, le10, hi10, _⟩ := at_T61 HS4.out (k : Int) (by omega) (by omega)
   subst hA
   have hB := HR.out.2
   replace hx1 := (hB.cell (World.block_lt_of_cell? w4 _ hx1)).trans hx1
   replace hx10 := (hB.cell (World.block_lt_of_cell? w4 _ hx10)).trans hx10
   rw [Int.toNat_natCast] at hx1 hx10
   have HX := Lib.hid (show rd_T61 LS (k : Int) = LS[k] by unfold rd_T61; rw [Int.toNat_natCast]; simp [List.getD, hlt])
   obtain ⟨c, hce⟩ : ∃ c, c = rd_T61 LS (k : Int) := ⟨_, rfl⟩
   rw [← hce] at HX hx1 hx10 le10 hi10
   clear hce hB hx0 hx2 hx3 hx4 hx5 hx6 hx7 hx8 hx9 hx11 hx12
   have HSL := Lib.hid (allD_succ LS k hlt)
   have HCL := Lib.hid (HIN.out LS[k] (List.getElem_mem hlt)).1
   have HCS := Lib.hid (HSY.out LS[k] (List.getElem_mem hlt))
   rw [← HX.out] at HSL HCS HCL
   have HI10 := Lib.hid (Kd.C_below hi10 HR.out.2)
   have HK := Lib.hid hlt
   clear hi10
   have km : (k : Int) < (LS.length : Int) := by omega
   have km0 : (0 : Int) ≤ (k : Int) := by omega
   have kw : IntKind.i64.wrap ((k : Int) + 1) = ((k + 1 : Nat) : Int) := by rw [IntKind.wrap_i64]; have := HLL.out; omega
   by_cases h2 : c.f1 = 2
   ·have h2b : (c.f1 == 2) = true := beq_iff_eq.2 h2
    have hpos := HCS.out h2
    have HS0 := Lib.hid (show symsD c = c.f10.drop 1 by unfold symsD; rw [if_pos h2])
    have h10c : (1 : Int) ≤ (c.f10.length : Int) := by omega
    have h10d : (c.f10.length : Int) ≤ (e10 : Int) := by omega
    have h10e := eq_true h10c
    have HDr := Lib.hid (Kd.C_drop (m := 1) HI10.out (by omega) le10)
    obtain ⟨bd, hbd, _⟩ := hi10_some HI10.out hpos
    subst hbd
    obtain ⟨XS, hXS⟩ : ∃ XS, XS = allD (LS.take k) := ⟨_, rfl⟩
    have hXL : XS.length ≤ 16 := by rw [hXS]; refine Nat.le_trans (allD_take_le LS k) ?_; rw [← HAL.out]; exact HALN.out
    have hCL := HCL.out
    rw [← hXS] at HR HSL
    clear h2 hXS
    have hone : (e10 = 1) ∨ ¬ (e10 = 1) := Decidable.em _
    rcases hone with he | he
    ·subst he
     go_wp2_with (first | (at_builtin; refine Kd.R_append_rows k37 (Rr := k37.K wr) (w0 := w4) w4.heap.size rfl (.tmp 54) (.tmp 61) 57 37 _ _ rfl Tryd.underlying57 info37 rfl (by decide) (by omega) _ XS (c.f10.drop 1) _ _ _ (fun _ => True) (fun _ => False) rfl rfl HR.out.1 ?aR (fun _ _ h => by rw [k37_open h]; exact k37_mkM _ _ _ _) (fun _ h => h.elim) (fun _ _ => trivial) HR.out.2 HR.out.2.size ?aL ?_))
     case aR =>
      have h := HDr.out
      rw [if_pos (by trivial), List.length_drop, show c.f10.length - 1 = 0 by omega, List.drop_one] at h
      exact h
     case aL => omega
     intro v6 w6 hR6 hB6 hG6 hat6
     have HS6 := Lib.hid (show Kd.R k37 37 w6 w4.heap.size (fun _ => True) v6 (XS ++ c.f10.drop 1) ∧ Below w4.heap.size w4 w6 from ⟨by first | exact hR6 | (rw [List.drop_one]; exact hR6), hB6⟩)
     clear hR6 hB6 hG6 hat6
     go_wp2
     exact ⟨⟨k + 1, HK.out, rfl, by rw [HSL.out, HS0.out]; exact HS6⟩, by have := HK.out; simp only [intOf]; omega⟩
    ·go_wp2_with (first | (at_builtin; refine Kd.R_append_rows k37 (Rr := k37.K wr) (w0 := w4) w4.heap.size rfl (.tmp 54) (.tmp 61) 57 37 _ _ rfl Tryd.underlying57 info37 rfl (by decide) (by omega) _ XS (c.f10.drop 1) _ _ _ (fun _ => True) (fun _ => False) rfl rfl HR.out.1 ?bR (fun _ _ h => by rw [k37_open h]; exact k37_mkM _ _ _ _) (fun _ h => h.elim) (fun _ _ => trivial) HR.out.2 HR.out.2.size ?bL ?_))
     case bR =>
      have h := HDr.out
      rw [if_neg he, List.length_drop] at h
      exact h
     case bL => omega
     intro v6 w6 hR6 hB6 hG6 hat6
     have HS6 := Lib.hid (show Kd.R k37 37 w6 w4.heap.size (fun _ => True) v6 (XS ++ c.f10.drop 1) ∧ Below w4.heap.size w4 w6 from ⟨by first | exact hR6 | (rw [List.drop_one]; exact hR6), hB6⟩)
     clear hR6 hB6 hG6 hat6
     go_wp2
     exact ⟨⟨k + 1, HK.out, rfl, by rw [HSL.out, HS0.out]; exact HS6⟩, by have := HK.out; simp only [intOf]; omega⟩
   ·have h2b : (c.f1 == 2) = false := beq_eq_false_iff_ne.2 h2
    have HS0 := Lib.hid (show symsD c = [] by unfold symsD; rw [if_neg h2])
    clear h2
    go_wp2
    exact ⟨⟨k + 1, HK.out, rfl, by rw [HSL.out, HS0.out, List.append_nil]; exact HR⟩, by have := HK.out; simp only [intOf]; omega⟩
  ·have hke : k = LS.length := by omega
   subst hke
   rw [List.take_length, ← HAL.out] at HR
   obtain ⟨w5, hw5⟩ : ∃ w5, w5 = wr := ⟨_, rfl⟩
   subst hw5
   have HG5 := Lib.hid (And.intro (blk_below HG4.out.1 HR.out.2) (blk_below HG4.out.2 HR.out.2))
   have HM5 := Lib.hid (HM4.out.below HR.out.2)
   have HX5 := Lib.hid (Kd.C_below HC1.out HR.out.2)
   have HW5 := Lib.hid (HW4.out.trans (HR.out.2.mono HW4.out.size))
   obtain ⟨AA, ca, hAA, lca, hCA⟩ := Kd.R_reads HR.out.1
   subst hAA
   have HC5 := Lib.hid hCA
   clear hCA HR HM4 HC1 HW4 HG4 HS4 HIN HSY HLL
   go_wp2
   clear q9
   go_loopw [11, 12] (fun n i wr => ∃ k : Nat, k ≤ AL.length ∧ i = .int .i64 k ∧ n = .int .i64 (wantN (PM z).L o1 o2 o4 (AL.take k) : Nat) ∧ Hid (Below w5.heap.size w5 wr)) (fun _ i _ => AL.length - (intOf i).toNat)
   case atStart => exact ⟨0, Nat.zero_le _, rfl, rfl, Lib.hid (Below.refl _ _)⟩
   case round =>
    obtain ⟨k, hk, rfl, rfl, HRx⟩ := hrel
    by_cases hlt : k < AL.length
    ·as_aux_lemma =>
      obtain ⟨ad, hA, hy0, hy1, hy2, hy3, hy4, hy5, hy6⟩ := at_T37 HC5.out (k : Int) (by omega) (by omega)
      subst hA
      rw [Int.toNat_natCast] at hy0 hy1 hy2 hy3 hy4 hy5 hy6
      have HY := Lib.hid (show rd_T37 AL (k : Int) = AL[k] by unfold rd_T37; rw [Int.toNat_natCast]; simp [List.getD, hlt])
      obtain ⟨s, hse⟩ : ∃ s, s = rd_T37 AL (k : Int) := ⟨_, rfl⟩
      rw [← hse] at HY hy0 hy1 hy2 hy3 hy4 hy5 hy6
      clear hse
      have hok := HOKY.out AL[k] (List.getElem_mem hlt)
      have HTK := Lib.hid (show wantN (PM z).L o1 o2 o4 (AL.take (k + 1)) = wantN (PM z).L o1 o2 o4 (AL.take k) + (if cntB (PM z).L o1 o2 o4 s = true then 1 else 0) by rw [List.take_succ_eq_append_getElem hlt, wantN_snoc, HY.out])
      rw [← HY.out] at hok
      have HOK := Lib.hid hok
      have HLT := Lib.hid hlt
      obtain ⟨m, hmm⟩ : ∃ m, m = wantN (PM z).L o1 o2 o4 (AL.take k) := ⟨_, rfl⟩
      have hm16 : m ≤ 16 := by rw [hmm]; refine Nat.le_trans (wantN_le _ _ _ _ _) ?_; rw [List.length_take]; have := HALN.out; omega
      rw [← hmm] at HTK ⊢
      clear hmm hok
      have km : (k : Int) < (AL.length : Int) := by omega
      have km0 : (0 : Int) ≤ (k : Int) := by omega
      have kw : IntKind.i64.wrap ((k : Int) + 1) = ((k + 1 : Nat) : Int) := by rw [IntKind.wrap_i64]; have := HALN.out; omega
      have mw : IntKind.i64.wrap ((m : Int) + 1) = ((m + 1 : Nat) : Int) := by rw [IntKind.wrap_i64]; omega
      have HS17 := Lib.hid (show ∀ W, Below w5.heap.size w5 W → W.cell? ⟨g0, 0, none⟩ = some (.bool (flagB z.f0 2)) ∧ W.cell? ⟨g0, 1, none⟩ = some (.bool (flagB z.f0 1)) ∧ W.cell? ⟨g0, 2, none⟩ = some (.int .u8 3) ∧ W.cell? ⟨g0, 3, none⟩ = some (.int .u8 0) ∧ W.cell? ⟨g0, 4, none⟩ = some (.int .u64 1) ∧ W.cell? ⟨g0, 5, none⟩ = some (.int .u64 243) ∧ W.cell? ⟨g0, 6, none⟩ = some (.int .u64 16) ∧ W.cell? ⟨g0, 7, none⟩ = some (.int .u64 5) ∧ W.cell? ⟨g0, 8, none⟩ = some (.int .u64 1) ∧ W.cell? ⟨g0, 9, none⟩ = some (.slice A9 LS.length c9) ∧ W.cell? ⟨g0, 10, none⟩ = some (.slice A10 (segsR z.f4).length c10) ∧ W.cell? (ad.add (k * 7)) = some (.string s.f0) ∧ W.cell? ⟨(ad.add (k * 7)).block, (ad.add (k * 7)).off + 1, none⟩ = some (.int .u64 s.f1) ∧ W.cell? ⟨(ad.add (k * 7)).block, (ad.add (k * 7)).off + 2, none⟩ = some (.int .u64 s.f2) ∧ W.cell? ⟨(ad.add (k * 7)).block, (ad.add (k * 7)).off + 3, none⟩ = some (.int .u64 s.f3) ∧ W.cell? ⟨(ad.add (k * 7)).block, (ad.add (k * 7)).off + 4, none⟩ = some (.int .u64 s.f4) ∧ W.cell? ⟨(ad.add (k * 7)).block, (ad.add (k * 7)).off + 5, none⟩ = some (.int .u64 s.f5) ∧ W.cell? ⟨(ad.add (k * 7)).block, (ad.add (k * 7)).off + 6, none⟩ = some (.bool s.f6) from fun W hb => ⟨blk_cell (blk_below HG5.out.1 hb) 0, blk_cell (blk_below HG5.out.1 hb) 1, blk_cell (blk_below HG5.out.1 hb) 2, blk_cell (blk_below HG5.out.1 hb) 3, blk_cell (blk_below HG5.out.1 hb) 4, blk_cell (blk_below HG5.out.1 hb) 5, blk_cell (blk_below HG5.out.1 hb) 6, blk_cell (blk_below HG5.out.1 hb) 7, blk_cell (blk_below HG5.out.1 hb) 8, blk_cell (blk_below HG5.out.1 hb) 9, blk_cell (blk_below HG5.out.1 hb) 10, (hb.cell (World.block_lt_of_cell? w5 _ hy0)).trans hy0, (hb.cell (World.block_lt_of_cell? w5 _ hy1)).trans hy1, (hb.cell (World.block_lt_of_cell? w5 _ hy2)).trans hy2, (hb.cell (World.block_lt_of_cell? w5 _ hy3)).trans hy3, (hb.cell (World.block_lt_of_cell? w5 _ hy4)).trans hy4, (hb.cell (World.block_lt_of_cell? w5 _ hy5)).trans hy5, (hb.cell (World.block_lt_of_cell? w5 _ hy6)).trans hy6⟩)
      have HRL := Lib.hid (fun W (hb : Below w5.heap.size w5 W) => refLetter_t z (symT s) (show 0 ≤ s.f1 ∧ s.f1 < 18446744073709551616 by have := HOK.out.1; omega) (show 0 ≤ s.f5 from HOK.out.2.2.2) _ W (HM5.out.below hb))
      obtain ⟨lb, hlb⟩ : ∃ lb, lb = letB (PM z).L (symT s) := ⟨_, rfl⟩
      rw [← hlb] at HRL
      have HLB := Lib.hid hlb
      clear hlb hy0 hy1 hy2 hy3 hy4 hy5 hy6
      go_upto_region 17 with (fail)
      go_region_held3 (fun W => W.cell? ⟨g0, 0, none⟩ = some (.bool (flagB z.f0 2)) ∧ W.cell? ⟨g0, 1, none⟩ = some (.bool (flagB z.f0 1)) ∧ W.cell? ⟨g0, 2, none⟩ = some (.int .u8 3) ∧ W.cell? ⟨g0, 3, none⟩ = some (.int .u8 0) ∧ W.cell? ⟨g0, 4, none⟩ = some (.int .u64 1) ∧ W.cell? ⟨g0, 5, none⟩ = some (.int .u64 243) ∧ W.cell? ⟨g0, 6, none⟩ = some (.int .u64 16) ∧ W.cell? ⟨g0, 7, none⟩ = some (.int .u64 5) ∧ W.cell? ⟨g0, 8, none⟩ = some (.int .u64 1) ∧ W.cell? ⟨g0, 9, none⟩ = some (.slice A9 LS.length c9) ∧ W.cell? ⟨g0, 10, none⟩ = some (.slice A10 (segsR z.f4).length c10) ∧ W.cell? (ad.add (k * 7)) = some (.string s.f0) ∧ W.cell? ⟨(ad.add (k * 7)).block, (ad.add (k * 7)).off + 1, none⟩ = some (.int .u64 s.f1) ∧ W.cell? ⟨(ad.add (k * 7)).block, (ad.add (k * 7)).off + 2, none⟩ = some (.int .u64 s.f2) ∧ W.cell? ⟨(ad.add (k * 7)).block, (ad.add (k * 7)).off + 3, none⟩ = some (.int .u64 s.f3) ∧ W.cell? ⟨(ad.add (k * 7)).block, (ad.add (k * 7)).off + 4, none⟩ = some (.int .u64 s.f4) ∧ W.cell? ⟨(ad.add (k * 7)).block, (ad.add (k * 7)).off + 5, none⟩ = some (.int .u64 s.f5) ∧ W.cell? ⟨(ad.add (k * 7)).block, (ad.add (k * 7)).off + 6, none⟩ = some (.bool s.f6)) (first | exact HS17.out _ HBr.out | exact HS17.out _ (HRx.out.trans (((by repeat (first | with_reducible exact Below.refl _ _ | with_reducible assumption | with_reducible apply below_alloc | with_reducible apply pw_below_drewN | with_reducible apply below_drew1)) : Below wr.heap.size wr _).mono HRx.out.size)))
       (first
        |(go_at_call 10; refine (HRL.out _ (HRx.out.trans (((by repeat (first | with_reducible exact Below.refl _ _ | with_reducible assumption | with_reducible apply below_alloc | with_reducible apply pw_below_drewN | with_reducible apply below_drew1)) : Below wr.heap.size wr _).mono HRx.out.size))).mono ?_; rintro e w6 ⟨rfl, hb6⟩; have HBr := Lib.hid (show Below w5.heap.size w5 w6 from HRx.out.trans ((((by repeat (first | with_reducible exact Below.refl _ _ | with_reducible assumption | with_reducible apply below_alloc | with_reducible apply pw_below_drewN | with_reducible apply below_drew1)) : Below wr.heap.size wr _).trans (hb6.mono (by simp))).mono HRx.out.size)); clear hb6))
      have hy := HS17.out _ HBr.out
      have hy0 := hy.2.2.2.2.2.2.2.2.2.2.2.1
      have hy1 := hy.2.2.2.2.2.2.2.2.2.2.2.2.1
      have r0 := (blk_cell (blk_below HG5.out.2 HBr.out) 0).trans rfl
      have r1 := (blk_cell (blk_below HG5.out.2 HBr.out) 1).trans rfl
      have r2 := (blk_cell (blk_below HG5.out.2 HBr.out) 2).trans rfl
      clear hy
      obtain ⟨nb, hnb⟩ : ∃ nb, nb = s.f0.toList.isEmpty := ⟨_, rfl⟩
      obtain ⟨qv, hqv⟩ : ∃ qv, qv = Int.tdiv s.f1 16 := ⟨_, rfl⟩
      obtain ⟨bz, hbz⟩ : ∃ bz, bz = decide (0 < qv) := ⟨_, rfl⟩
      obtain ⟨p, hp⟩ : ∃ p, p = (lb.toList == ([85] : List UInt8)) := ⟨_, rfl⟩
      obtain ⟨q, hq⟩ : ∃ q, q = (lb.toList == ([119] : List UInt8)) := ⟨_, rfl⟩
      obtain ⟨un, hun⟩ : ∃ un, un = undB lb := ⟨_, rfl⟩
      have HUN := Lib.hid (show (p || q) = un by rw [hp, hq, hun]; rfl)
      have HCB := Lib.hid (show cntB (PM z).L o1 o2 o4 s = ((!nb) && (!o1 || !un) && (!o2 || un) && (!o4 || bz)) by
       have hb := bind_plan s HOK.out
       have h1 := HOK.out.1
       have e1 : (bindR (symT s) != 0) = bz := by
        rw [hb.1, hbz, hqv, Int.tdiv_eq_ediv_of_nonneg h1.1]
        by_cases h : s.f1 / 16 = 0
        ·rw [h]; rfl
        ·have h2 : 0 < s.f1 / 16 := by omega
         rw [decide_eq_true h2]; exact bne_iff_ne.2 h
       unfold cntB optB
       rw [e1, ← HLB.out, ← hun, hnb]; rfl)
      have hqw : IntKind.u64.wrap qv = qv := by
       have h1 := HOK.out.1
       rw [hqv, Int.tdiv_eq_ediv_of_nonneg h1.1, IntKind.wrap_u64]; omega
      replace hnb := hnb.symm
      replace hqv := hqv.symm
      replace hbz := hbz.symm
      replace hp := hp.symm
      replace hq := hq.symm
      have hqg : (qv > 0) = (bz = true) := by rw [← hbz, decide_eq_true_eq]
      clear hun
      go_upto_region 18 with (fail)
      go_cut [14] from 75 to 80 (fun s14 wx => s14 = .bool un ∧ wx = w6)
      case first =>
       clear hy0 hy1 r0 r1 r2 hnb hqv hbz hqg hqw
       cases p <;> cases q
       all_goals (
        go_wp2
        go_meet
        exact ⟨by rw [← HUN.out]; rfl, rfl⟩)
      case rest =>
       obtain ⟨rfl, rfl⟩ := hcut
       clear hp hq
       go_upto_region 19 with (fail)
       go_cut [117] from 81 to 116 (fun s117 wx => s117 = .bool (cntB (PM z).L o1 o2 o4 s) ∧ wx = wc)
       case first =>
        cases nb
        ·cases o1 <;> cases un <;> cases o2
         all_goals first
          |(as_aux_lemma => (go_wp2; go_meet; exact ⟨by rw [HCB.out]; rfl, rfl⟩))
          |(cases o4 <;> cases bz <;> (as_aux_lemma => (go_wp2; go_meet; exact ⟨by rw [HCB.out]; rfl, rfl⟩)))
        ·go_wp2
         go_meet
         exact ⟨by rw [HCB.out]; rfl, rfl⟩
       case rest =>
        obtain ⟨rfl, rfl⟩ := hcut
        clear hnb hqv hbz hqg hqw hy0 hy1 r0 r1 r2 HCB
        obtain ⟨cb, hcb⟩ : ∃ cb, cb = cntB (PM z).L o1 o2 o4 s := ⟨_, rfl⟩
        rw [← hcb] at HTK ⊢
        clear hcb
        cases cb
        ·go_wp2
         exact ⟨⟨k + 1, HLT.out, rfl, by rw [HTK.out]; rfl, HBr⟩, by have := HLT.out; simp only [intOf]; omega⟩
        ·go_wp2
         exact ⟨⟨k + 1, HLT.out, rfl, by rw [HTK.out]; rfl, HBr⟩, by have := HLT.out; simp only [intOf]; omega⟩
    ·have hke : k = AL.length := by omega
     subst hke
     rw [List.take_length]
     have HWT := Lib.hid (show wantN (PM z).L o1 o2 o4 AL = xs.length by rw [HXS.out, (rows_perm _ _ _ _ _).1.length_eq, rowsS_want])
     rw [HWT.out]
     have hmm := @run_makeMap Tryd.prog
     go_upto_region 22 with (fail)
     clear hmm
     obtain ⟨gM, hgM⟩ : ∃ gM, gM = wr.heap.size := ⟨_, rfl⟩
     obtain ⟨w6, hw6⟩ : ∃ w6, w6 = wr.alloc (.map #[] 0) := ⟨_, rfl⟩
     have HMP0 := Lib.hid (show w6.ownsMap Tryd.prog 3 (plainElem (H := Unit) Tryd.prog 4) gM 0 (seenD []) from by rw [hw6, hgM]; exact World.ownsMap_made _ _ _ _)
     have HB6 := Lib.hid (show Below w5.heap.size w5 w6 from by rw [hw6]; exact below_alloc HRx.out _)
     have HGM := Lib.hid (show w5.heap.size ≤ gM from by rw [hgM]; exact HRx.out.size)
     rw [← hw6, ← hgM]
     clear hw6 hgM HRx
     have HXL := Lib.hid (show xs.length ≤ 16 by rw [← HWT.out]; exact Nat.le_trans (wantN_le _ _ _ _ _) HALN.out)
     have HROW := Lib.hid (show ∀ (k : Nat) (h : k < xs.length), ∃ (j : Nat) (hj : j < AL.length), xs[k] = rowOf (PM z).L (symT AL[j]) j ∧ cntB (PM z).L o1 o2 o4 AL[j] = true from by rw [HXS.out]; exact fun k h => row_is (PM z).L o1 o2 o4 AL k h)
     have HNOD := Lib.hid (show (xs.map (·.f4)).Nodup from by rw [HXS.out]; exact rows_nodup (PM z).L o1 o2 o4 (AL.map symT))
     have HSRT := Lib.hid (show xs.Pairwise RowLt from by rw [HXS.out]; exact (rows_perm (PM z).L o1 o2 o4 (AL.map symT)).2)
     clear HXS HAL HWT
     go_wp2
     go_loopw [16] (fun i wx => ∃ k : Nat, k ≤ xs.length ∧ i = .int .i64 k ∧ Hid (wx.ownsMap Tryd.prog 3 (plainElem (H := Unit) Tryd.prog 4) gM k (seenD ((xs.take k).map (·.f4)).reverse) ∧ Below w5.heap.size w5 wx)) (fun i _ => xs.length - (intOf i).toNat)
     case atStart => exact ⟨0, Nat.zero_le _, rfl, Lib.hid ⟨HMP0.out, HB6.out⟩⟩
     case round =>
      obtain ⟨k, hk, rfl, HR⟩ := hrel
      clear HMP0 HB6
      by_cases hlt : k < xs.length
      ·as_aux_lemma =>
        obtain ⟨j, hj, hrow, hcnt⟩ := HROW.out k hlt
        obtain ⟨s, hs⟩ : ∃ s, s = AL[j] := ⟨_, rfl⟩
        rw [← hs] at hrow hcnt
        have HOK := Lib.hid (show okY s by rw [hs]; exact HOKY.out AL[j] (List.getElem_mem hj))
        obtain ⟨ad, hA, hx0, hx1, hx2, hx3, hx4⟩ := at_Row HX5.out k hlt hlt
        obtain ⟨lb, hlb⟩ : ∃ lb, lb = letB (PM z).L (symT s) := ⟨_, rfl⟩
        rw [hrow] at hx0 hx1 hx2 hx3 hx4
        have hx0' : w5.cell? (ad.add (k * 5)) = some (.int .u64 s.f3) := hx0
        have hx1' : w5.cell? ⟨(ad.add (k * 5)).block, (ad.add (k * 5)).off + 1, none⟩ = some (.int .u64 s.f4) := hx1
        have hx2' : w5.cell? ⟨(ad.add (k * 5)).block, (ad.add (k * 5)).off + 2, none⟩ = some (.string lb) := by rw [hlb]; exact hx2
        have hx3' : w5.cell? ⟨(ad.add (k * 5)).block, (ad.add (k * 5)).off + 3, none⟩ = some (.string s.f0) := hx3
        have hx4' : w5.cell? ⟨(ad.add (k * 5)).block, (ad.add (k * 5)).off + 4, none⟩ = some (.int .i64 (j : Int)) := hx4
        subst hA
        have hB := HR.out.2
        replace hx0 := (hB.cell (World.block_lt_of_cell? w5 _ hx0')).trans hx0'
        replace hx1 := (hB.cell (World.block_lt_of_cell? w5 _ hx1')).trans hx1'
        replace hx2 := (hB.cell (World.block_lt_of_cell? w5 _ hx2')).trans hx2'
        replace hx3 := (hB.cell (World.block_lt_of_cell? w5 _ hx3')).trans hx3'
        replace hx4 := (hB.cell (World.block_lt_of_cell? w5 _ hx4')).trans hx4'
        clear hx0' hx1' hx2' hx3' hx4' hB
        have HNEW := Lib.hid (show decide ((j : Int) ∈ ((xs.take k).map (·.f4)).reverse) = false from by
         have h := nodup_take HNOD.out k (by rw [List.length_map]; exact hlt)
         rw [List.getElem_map, hrow, ← List.map_take] at h
         rw [decide_eq_false_iff_not, List.mem_reverse]
         exact h)
        have HNXT := Lib.hid (show ((xs.take (k + 1)).map (·.f4)).reverse = (j : Int) :: ((xs.take k).map (·.f4)).reverse from by
         rw [List.take_succ_eq_append_getElem hlt, List.map_append, List.reverse_append, hrow]; rfl)
        have HPRE := Lib.hid (show ∀ (i : Nat) (h : k = i + 1), RowLt (xs[i]'(by omega)) (rowOf (PM z).L (symT s) j) from fun i h => by
         subst h
         have h := (List.pairwise_iff_getElem.1 HSRT.out) i (i + 1) (by omega) hlt (by omega)
         rw [hrow] at h; exact h)
        have HLT := Lib.hid hlt
        have HJ := Lib.hid hj
        have km : (k : Int) < (xs.length : Int) := by omega
        have km0 : (0 : Int) ≤ (k : Int) := by omega
        have kw : IntKind.i64.wrap ((k : Int) + 1) = ((k + 1 : Nat) : Int) := by rw [IntKind.wrap_i64]; have := HXL.out; omega
        have HSJ := Lib.hid hs
        have HLB := Lib.hid hlb
        clear hrow hs hlb
        go_upto_region 26 with (fail)
        clear hx0 hx1 hx2 hx3 hx4
        obtain ⟨wX, hwX⟩ : ∃ wX, wX = wr.alloc (.cells #[.int .u64 s.f3, .int .u64 s.f4, .string lb, .string s.f0, .int .i64 j] 64) := ⟨_, rfl⟩
        obtain ⟨gX, hgX⟩ : ∃ gX, gX = wr.heap.size := ⟨_, rfl⟩
        have HX0 := Lib.hid (show wX.heap[gX]? = some (.cells #[.int .u64 s.f3, .int .u64 s.f4, .string lb, .string s.f0, .int .i64 j] 64 (0, 0)) by rw [hwX, hgX]; exact blk_new wr _)
        have HMX := Lib.hid (show wX.ownsMap Tryd.prog 3 (plainElem (H := Unit) Tryd.prog 4) gM k (seenD ((xs.take k).map (·.f4)).reverse) by rw [hwX]; exact owns_below HR.out.1 (below_alloc (Below.refl _ _) _))
        have HBX := Lib.hid (show Below w5.heap.size w5 wX by rw [hwX]; exact below_alloc HR.out.2 _)
        have HNE := Lib.hid (show gX ≠ gM from by rw [hgX]; exact Nat.ne_of_gt (owns_lt HR.out.1))
        rw [← hwX, ← hgX]
        clear hwX hgX HR
        have hj16 : j < 1000 := by have := HALN.out; omega
        have hlook := seen_look HMX.out (j : Int) (by omega) (by omega)
        rw [HNEW.out] at hlook
        obtain ⟨W3, hrun3, hown3, hg3⟩ := seen_upd HMX.out (j : Int) (by omega) (by omega) (show k < maxLen by have := HXL.out; unfold maxLen; omega)
        rw [← HNXT.out] at hown3
        have HM3 := Lib.hid hown3
        have HB3 := Lib.hid (HBX.out.grown hg3 HBX.out.size (fun b e => by cases e; exact HGM.out))
        have HX3 := Lib.hid (blk_grown HX0.out hg3 (by intro e; injection e with e; exact HNE.out e))
        clear hown3 hg3 HNEW HNXT
        obtain ⟨bd, hA, hy0, hy1, hy2, hy3, hy4, hy5, hy6⟩ := at_T37 HC5.out (j : Int) (by omega) (by have := HJ.out; omega)
        subst hA
        rw [Int.toNat_natCast] at hy0 hy1 hy2 hy3 hy4 hy5 hy6
        have hye : rd_T37 AL (j : Int) = s := by rw [HSJ.out]; unfold rd_T37; rw [Int.toNat_natCast]; simp [List.getD, HJ.out]
        rw [hye] at hy0 hy1 hy2 hy3 hy4 hy5 hy6
        clear hye
        replace hy0 := (HB3.out.cell (World.block_lt_of_cell? w5 _ hy0)).trans hy0
        replace hy1 := (HB3.out.cell (World.block_lt_of_cell? w5 _ hy1)).trans hy1
        replace hy2 := (HB3.out.cell (World.block_lt_of_cell? w5 _ hy2)).trans hy2
        replace hy3 := (HB3.out.cell (World.block_lt_of_cell? w5 _ hy3)).trans hy3
        replace hy4 := (HB3.out.cell (World.block_lt_of_cell? w5 _ hy4)).trans hy4
        replace hy5 := (HB3.out.cell (World.block_lt_of_cell? w5 _ hy5)).trans hy5
        replace hy6 := (HB3.out.cell (World.block_lt_of_cell? w5 _ hy6)).trans hy6
        have jl := HJ.out
        have j0 : decide ((j : Int) < 0) = false := by rw [decide_eq_false_iff_not]; omega
        have j1 : decide ((AL.length : Int) ≤ (j : Int)) = false := by rw [decide_eq_false_iff_not]; omega
        have j2 : decide (AL.length ≤ j) = false := by rw [decide_eq_false_iff_not]; omega
        have j3 : (j : Int) < (AL.length : Int) := by omega
        have j4 : (0 : Int) ≤ (j : Int) := by omega
        have j5 : ¬ ((AL.length : Int) ≤ (j : Int)) := by omega
        have j6 : ¬ ((j : Int) < 0) := by omega
        have j7 : ¬ (AL.length ≤ j) := by omega
        have z4 := (blk_cell HX0.out 4).trans rfl
        have z34 := (blk_cell HX3.out 4).trans rfl
        go_upto_region 30 with (fail)
        clear z4 z34 j0 j1 j2 j3 j4 j5 j6 j7 jl hy0 hy1 hy2 hy3 hy4 hy5 hy6 hlook hrun3 HX0 HMX HBX
        obtain ⟨wY, hwY⟩ : ∃ wY, wY = W3.alloc (.cells #[.string s.f0, .int .u64 s.f1, .int .u64 s.f2, .int .u64 s.f3, .int .u64 s.f4, .int .u64 s.f5, .bool s.f6] 37) := ⟨_, rfl⟩
        obtain ⟨gY, hgY⟩ : ∃ gY, gY = W3.heap.size := ⟨_, rfl⟩
        have HY0 := Lib.hid (show wY.heap[gY]? = some (.cells #[.string s.f0, .int .u64 s.f1, .int .u64 s.f2, .int .u64 s.f3, .int .u64 s.f4, .int .u64 s.f5, .bool s.f6] 37 (0, 0)) by rw [hwY, hgY]; exact blk_new W3 _)
        have HBY := Lib.hid (show Below W3.heap.size W3 wY by rw [hwY]; exact below_alloc (Below.refl _ _) _)
        rw [← hwY, ← hgY]
        clear hwY hgY
        have HXY := Lib.hid (blk_below HX3.out HBY.out)
        have HMY := Lib.hid (owns_below HM3.out HBY.out)
        have HBw := Lib.hid (HB3.out.trans (HBY.out.mono HB3.out.size))
        clear HX3 HM3 HB3 HBY
        have HRL := Lib.hid (refLetter_t z (symT s) (show 0 ≤ s.f1 ∧ s.f1 < 18446744073709551616 by have := HOK.out.1; omega) (show 0 ≤ s.f5 from HOK.out.2.2.2) _ wY (HM5.out.below HBw.out))
        rw [← HLB.out] at HRL
        have m0 := (blk_cell (blk_below HG5.out.1 HBw.out) 0).trans rfl; have m1 := (blk_cell (blk_below HG5.out.1 HBw.out) 1).trans rfl; have m2 := (blk_cell (blk_below HG5.out.1 HBw.out) 2).trans rfl; have m3 := (blk_cell (blk_below HG5.out.1 HBw.out) 3).trans rfl; have m4 := (blk_cell (blk_below HG5.out.1 HBw.out) 4).trans rfl; have m5 := (blk_cell (blk_below HG5.out.1 HBw.out) 5).trans rfl; have m6 := (blk_cell (blk_below HG5.out.1 HBw.out) 6).trans rfl; have m7 := (blk_cell (blk_below HG5.out.1 HBw.out) 7).trans rfl; have m8 := (blk_cell (blk_below HG5.out.1 HBw.out) 8).trans rfl; have m9 := (blk_cell (blk_below HG5.out.1 HBw.out) 9).trans rfl; have m10 := (blk_cell (blk_below HG5.out.1 HBw.out) 10).trans rfl
        have y0 := (blk_cell (HY0.out) 0).trans rfl; have y1 := (blk_cell (HY0.out) 1).trans rfl; have y2 := (blk_cell (HY0.out) 2).trans rfl; have y3 := (blk_cell (HY0.out) 3).trans rfl; have y4 := (blk_cell (HY0.out) 4).trans rfl; have y5 := (blk_cell (HY0.out) 5).trans rfl; have y6 := (blk_cell (HY0.out) 6).trans rfl
        go_upto_region 31 with (first
         |(go_at_call 10; refine HRL.out.mono ?_; rintro e w8 ⟨rfl, hb8⟩; have HB8 := Lib.hid hb8; clear hb8))
        clear m0 m1 m2 m3 m4 m5 m6 m7 m8 m9 m10 y0 y1 y2 y3 y4 y5 y6 HRL
        have HX8 := Lib.hid (blk_below HXY.out HB8.out)
        have HY8 := Lib.hid (blk_below HY0.out HB8.out)
        have HM8 := Lib.hid (owns_below HMY.out HB8.out)
        have HBz := Lib.hid (HBw.out.trans (HB8.out.mono HBw.out.size))
        have HG8 := Lib.hid (blk_below HG5.out.2 HBz.out)
        clear HXY HY0 HMY HBw HB8
        obtain ⟨qv, hqv⟩ : ∃ qv, qv = Int.tdiv s.f1 16 := ⟨_, rfl⟩
        obtain ⟨bz, hbz⟩ : ∃ bz, bz = (qv == 0) := ⟨_, rfl⟩
        obtain ⟨p, hp⟩ : ∃ p, p = (lb.toList == ([85] : List UInt8)) := ⟨_, rfl⟩
        obtain ⟨q, hq⟩ : ∃ q, q = (lb.toList == ([119] : List UInt8)) := ⟨_, rfl⟩
        obtain ⟨un, hun⟩ : ∃ un, un = undB lb := ⟨_, rfl⟩
        have HUN := Lib.hid (show (p || q) = un by rw [hp, hq, hun]; rfl)
        have HCB := Lib.hid (show ((!o1 || !un) && (!o2 || un) && (!o4 || !bz)) = true by
         have hb := bind_plan s HOK.out
         have h1 := HOK.out.1
         have e1 : (bindR (symT s) != 0) = !bz := by
          rw [hb.1, hbz, hqv, Int.tdiv_eq_ediv_of_nonneg h1.1]; rfl
         have h := hcnt
         unfold cntB optB at h
         rw [e1, ← HLB.out, ← hun] at h
         cases h0 : (symT s).f0.toList.isEmpty
         ·rw [h0] at h; simpa using h
         ·rw [h0] at h; simp at h)
        have hqw : IntKind.u64.wrap qv = qv := by
         have h1 := HOK.out.1
         rw [hqv, Int.tdiv_eq_ediv_of_nonneg h1.1, IntKind.wrap_u64]; omega
        replace hqv := hqv.symm
        replace hbz := hbz.symm
        replace hp := hp.symm
        replace hq := hq.symm
        clear hun hcnt
        go_cut [20] from 158 to 163 (fun s20 wx => s20 = .bool un ∧ wx = w8)
        case first =>
         cases p <;> cases q
         all_goals (
          go_wp2
          go_meet
          exact ⟨by rw [← HUN.out]; rfl, rfl⟩)
        case rest =>
         obtain ⟨rfl, rfl⟩ := hcut
         clear hp hq
         go_upto_region 32 with (fail)
         go_cut [213] from 164 to 212 (fun s213 wx => s213 = .bool false ∧ wx = wc)
         case first =>
          have r0 := (blk_cell HG8.out 0).trans rfl
          have r1 := (blk_cell HG8.out 1).trans rfl
          have r2 := (blk_cell HG8.out 2).trans rfl
          have x0 := (blk_cell HX8.out 0).trans rfl
          have x1 := (blk_cell HX8.out 1).trans rfl
          have x2 := (blk_cell HX8.out 2).trans rfl
          have x3 := (blk_cell HX8.out 3).trans rfl
          have y0 := (blk_cell HY8.out 0).trans rfl
          have y1 := (blk_cell HY8.out 1).trans rfl
          have y3 := (blk_cell HY8.out 3).trans rfl
          have y4 := (blk_cell HY8.out 4).trans rfl
          cases o1 <;> cases un <;> cases o2 <;> cases o4 <;> cases bz
          all_goals first
           |(exfalso; exact absurd HCB.out (by decide))
           |(as_aux_lemma => (go_wp2; go_meet; exact ⟨rfl, rfl⟩))
         case rest =>
          obtain ⟨rfl, rfl⟩ := hcut
          clear hqv hbz hqw
          have x3 := (blk_cell HX8.out 3).trans rfl
          have x4 := (blk_cell HX8.out 4).trans rfl
          by_cases hk0 : k = 0
          ·have hk3 : ¬ ((0 : Int) < (k : Int)) := by omega
           have hk4 : decide ((0 : Int) < (k : Int)) = false := by rw [decide_eq_false_iff_not]; omega
           have hk5 : ¬ (0 < k) := by omega
           have hk6 : decide (0 < k) = false := by rw [decide_eq_false_iff_not]; omega
           clear hk0
           go_upto_region 34 with (fail)
           go_quiet (fail)
           go_wp2
           go_roundw
           case rel => exact ⟨k + 1, HLT.out, by go_num, Lib.hid ⟨owns_below HM8.out (pw_below_drewN (Below.refl _ _) nq), HBz.out.trans ((pw_below_drewN (Below.refl _ _) nq : Below wc.heap.size wc _).mono HBz.out.size)⟩⟩
           case measure => have := HLT.out; simp [intOf]; omega
          ·obtain ⟨i, hi⟩ : ∃ i, k = i + 1 := ⟨k - 1, by omega⟩
           have hil : i < xs.length := by have := HLT.out; omega
           have hk3 : (0 : Int) < (k : Int) := by omega
           have hk4 : decide ((0 : Int) < (k : Int)) = true := by rw [decide_eq_true_eq]; omega
           have hk5 : 0 < k := by omega
           have hk6 : decide (0 < k) = true := by rw [decide_eq_true_eq]; omega
           have b1 : IntKind.i64.wrap ((k : Int) - 1) = (i : Int) := by rw [IntKind.wrap_i64]; have := HXL.out; omega
           have hlt2 := HPRE.out i hi
           obtain ⟨j2, hj2, hrow2, hc2⟩ := HROW.out i hil
           obtain ⟨r2, hr2⟩ : ∃ r2, r2 = xs[i] := ⟨_, rfl⟩
           have hf4 : 0 ≤ r2.f4 := by rw [hr2, hrow2]; exact Int.natCast_nonneg _
           obtain ⟨ad2, hA2, v0, v1, v2, v3, v4⟩ := at_Row HX5.out i hil hil
           rw [← hr2] at v0 v1 v2 v3 v4 hlt2
           obtain ⟨t1, t2⟩ := rowlt_tests hlt2 hf4 (show 0 ≤ (j : Int) by omega)
           have t1' : Op.bytesLess s.f0.toList r2.f3.toList = false := t1
           have t2' : (r2.f3.toList == s.f0.toList) = true → decide ((j : Int) < r2.f4) = false := t2
           injection hA2 with hA2
           subst hA2
           replace v3 := (HBz.out.cell (World.block_lt_of_cell? w5 _ v3)).trans v3
           replace v4 := (HBz.out.cell (World.block_lt_of_cell? w5 _ v4)).trans v4
           have hi3 : (i : Int) < (xs.length : Int) := by omega
           have hi4 : (0 : Int) ≤ (i : Int) := by omega
           obtain ⟨f3, hf3⟩ : ∃ f3, f3 = r2.f3 := ⟨_, rfl⟩
           obtain ⟨f4, hf4e⟩ : ∃ f4, f4 = r2.f4 := ⟨_, rfl⟩
           rw [← hf3] at v3 t1' t2'
           rw [← hf4e] at v4 t2'
           clear v0 v1 v2 hlt2 hrow2 hr2 hf3 hf4e t1 t2 hi hf4 hc2 hj2
           rcases Bool.eq_false_or_eq_true (f3.toList == s.f0.toList) with heb | heb
           ·have t3 := t2' heb
            have t4 : ¬ ((j : Int) < f4) := by rw [decide_eq_false_iff_not] at t3; exact t3
            clear t2'
            go_upto_region 34 with (fail)
            go_quiet (fail)
            go_wp2
            go_roundw
            case rel => exact ⟨k + 1, HLT.out, by go_num, Lib.hid ⟨owns_below HM8.out (pw_below_drewN (Below.refl _ _) nq), HBz.out.trans ((pw_below_drewN (Below.refl _ _) nq : Below wc.heap.size wc _).mono HBz.out.size)⟩⟩
            case measure => have := HLT.out; simp [intOf]; omega
           ·have t5 := bl_total t1' heb
            clear t2'
            go_upto_region 34 with (fail)
            go_quiet (fail)
            go_wp2
            go_roundw
            case rel => exact ⟨k + 1, HLT.out, by go_num, Lib.hid ⟨owns_below HM8.out (pw_below_drewN (Below.refl _ _) nq), HBz.out.trans ((pw_below_drewN (Below.refl _ _) nq : Below wc.heap.size wc _).mono HBz.out.size)⟩⟩
            case measure => have := HLT.out; simp [intOf]; omega
      ·have hke : k = xs.length := by omega
       subst hke
       go_wp2
       go_ret
       exact ⟨rfl, HW5.out.trans (HR.out.2.mono HW5.out.size)⟩
end Go.Proofs.YtkbamfiokhmpjaaDoor

/- Contracts over this translation, a model: Find. -/
import Derived.Test.YthphhogljniofaaDoorXKdM17D
import Derived.Deep.DeepCutAuto
import Derived.BigQuiet
import Derived.Test.YthphhogljniofaaDoorXKdM17P
import Derived.Test.YthphhogljniofaaDoorIter
import Derived.Maps.OwnIn
import Derived.Maps.Views
import Derived.Maps.OwnSet
import Derived.StringKeys
import Derived.Sort.Walk0
import Derived.Laws.Cover1
namespace Go.Proofs.YthphhogljniofaaDoor
set_option linter.unusedVariables false
set_option linter.unusedSimpArgs false
open Go.RowKit Go.Proofs.YthphhogljniofaaDoorX.Kd Go.Proofs.YthphhogljniofaaDoorW.PrintWords Go.Proofs.YthphhogljniofaaDoorW.PrintLast Go.Proofs.YthphhogljniofaaDoorW.PrintMore

/-- Where the first section of a name stands, the nought-th apart. -/
def findF (n : ByteArray) : Nat → List S58 → Option Nat
  | _, [] => none
  | k, x :: xs => if 0 < k ∧ x.f0.toList = n.toList then some k else findF n (k + 1) xs
set_option maxRecDepth 100000 in
set_option maxHeartbeats 16000000 in
theorem find_any (big wide : Bool) (abi ver : Int) (pad : ByteArray) (ty mc en fg nm : Int) (L : List S58) (D : List S65) (n : ByteArray) (A9 A10 : Option Addr) (c9 c10 : Nat) (w : World) (hL : Kd.C k58 w A9 L.length L) :
    Calls Tryd.prog 32 #[.agg #[.bool big, .bool wide, .int .u8 abi, .int .u8 ver, .string pad, .int .u64 ty, .int .u64 mc, .int .u64 en, .int .u64 fg, .int .u64 nm, .slice A9 L.length c9, .slice A10 D.length c10], .string n] w fun e w' => e = .returned (.tuple #[.int .i64 ((findF n 0 L).getD 0 : Nat), .bool (findF n 0 L).isSome]) ∧ Below w.heap.size w w' := by
  have HL := Lib.hid hL
  have hbd : L.length ≤ 9223372036854775807 := hL.2.1
  clear hL
  go_enter Tryd.func32, Tryd.ntmps32
  go_upto_region 1 with (fail)
  obtain ⟨wA, hwA⟩ : ∃ wA, wA = w.alloc (.cells #[.bool big, .bool wide, .int .u8 abi, .int .u8 ver, .string pad, .int .u64 ty, .int .u64 mc, .int .u64 en, .int .u64 fg, .int .u64 nm, .slice A9 L.length c9, .slice A10 D.length c10] 39) := ⟨_, rfl⟩
  have HB := Lib.hid (show Below w.heap.size w wA from by rw [hwA]; exact below_alloc (Below.refl _ _) _)
  have p10 := blk_cell (show wA.heap[w.heap.size]? = some (.cells #[.bool big, .bool wide, .int .u8 abi, .int .u8 ver, .string pad, .int .u64 ty, .int .u64 mc, .int .u64 en, .int .u64 fg, .int .u64 nm, .slice A9 L.length c9, .slice A10 D.length c10] 39 (0, 0)) by rw [hwA]; exact blk_new w _) 10
  simp only [List.getElem?_toArray, List.getElem?_cons_succ, List.getElem?_cons_zero] at p10
  rw [← hwA]
  clear hwA
  go_wp2
  clear p10
  go_loopw [11] (fun i wr => ∃ k : Nat, k ≤ L.length ∧ i = .int .i64 k ∧ Hid (Below w.heap.size w wr ∧ findF n 0 L = findF n k (L.drop k))) (fun i _ => L.length - (intOf i).toNat)
  case atStart => exact ⟨0, Nat.zero_le _, rfl, Lib.hid ⟨HB.out, rfl⟩⟩
  case round =>
    obtain ⟨k, hk1, rfl, HR⟩ := hrel
    clear HB
    by_cases hlt : k < L.length
    · obtain ⟨ad, A0, a0, A1, a1, A2, a2, hA, o0, o1, o2, o3, o4, o5, o6, o7, o8, o9, o10, o11, o12, l0, g0, l1, g1, l2, g2⟩ := at_T58 HL.out (k : Int) (by omega) (by omega)
      subst hA
      rw [Int.toNat_natCast] at o0 o1 o2 o3 o4 o5 o6 o7 o8 o9 o10 o11 o12
      obtain ⟨x, hxe⟩ : ∃ x, x = rd_T58 L (k : Int) := ⟨_, rfl⟩
      have HX := Lib.hid (show L[k] = x by rw [hxe]; unfold rd_T58; rw [Int.toNat_natCast]; simp [List.getD, hlt])
      rw [← hxe] at o0 o1 o2 o3 o4 o5 o6 o7 o8 o9 o10 o11 o12 l0 g0 l1 g1 l2 g2
      clear hxe l0 g0 l1 g1 l2 g2
      have p0 := (HR.out.1.cell (World.block_lt_of_cell? w _ o0)).trans o0
      have p1 := (HR.out.1.cell (World.block_lt_of_cell? w _ o1)).trans o1
      have p2 := (HR.out.1.cell (World.block_lt_of_cell? w _ o2)).trans o2
      have p3 := (HR.out.1.cell (World.block_lt_of_cell? w _ o3)).trans o3
      have p4 := (HR.out.1.cell (World.block_lt_of_cell? w _ o4)).trans o4
      have p5 := (HR.out.1.cell (World.block_lt_of_cell? w _ o5)).trans o5
      have p6 := (HR.out.1.cell (World.block_lt_of_cell? w _ o6)).trans o6
      have p7 := (HR.out.1.cell (World.block_lt_of_cell? w _ o7)).trans o7
      have p8 := (HR.out.1.cell (World.block_lt_of_cell? w _ o8)).trans o8
      have p9 := (HR.out.1.cell (World.block_lt_of_cell? w _ o9)).trans o9
      have p10 := (HR.out.1.cell (World.block_lt_of_cell? w _ o10)).trans o10
      have p11 := (HR.out.1.cell (World.block_lt_of_cell? w _ o11)).trans o11
      have p12 := (HR.out.1.cell (World.block_lt_of_cell? w _ o12)).trans o12
      clear o0 o1 o2 o3 o4 o5 o6 o7 o8 o9 o10 o11 o12
      go_upto_region 4 with (fail)
      clear p0 p1 p2 p3 p4 p5 p6 p7 p8 p9 p10 p11 p12
      obtain ⟨wX, hwX⟩ : ∃ wX, wX = wr.alloc (.cells #[.string x.f0, .int .u64 x.f1, .int .u64 x.f2, .int .u64 x.f3, .int .u64 x.f4, .int .u64 x.f5, .int .u64 x.f6, .int .u64 x.f7, .int .u64 x.f8, .string x.f9, .slice A0 x.f10.length a0, .slice A1 x.f11.length a1, .slice A2 x.f12.length a2] 58) := ⟨_, rfl⟩
      have HTX := Lib.hid (show Below w.heap.size w wX from by rw [hwX]; exact below_alloc HR.out.1 _)
      have r0 := blk_cell (show wX.heap[wr.heap.size]? = some (.cells #[.string x.f0, .int .u64 x.f1, .int .u64 x.f2, .int .u64 x.f3, .int .u64 x.f4, .int .u64 x.f5, .int .u64 x.f6, .int .u64 x.f7, .int .u64 x.f8, .string x.f9, .slice A0 x.f10.length a0, .slice A1 x.f11.length a1, .slice A2 x.f12.length a2] 58 (0, 0)) by rw [hwX]; exact blk_new wr _) 0
      simp only [List.getElem?_toArray, List.getElem?_cons_succ, List.getElem?_cons_zero] at r0
      rw [← hwX]
      clear hwX
      have HEQ := Lib.hid HR.out.2
      clear HR
      have HST := Lib.hid (show findF n k (L.drop k) = if 0 < k ∧ x.f0.toList = n.toList then some k else findF n (k + 1) (L.drop (k + 1)) by
        rw [List.drop_eq_getElem_cons hlt, HX.out]; rfl)
      by_cases h0 : 0 < k
      · by_cases hn : x.f0.toList = n.toList
        · have e0 : (x.f0.toList == n.toList) = true := beq_iff_eq.2 hn
          have HF := Lib.hid (show findF n 0 L = some k by rw [HEQ.out, HST.out, if_pos ⟨h0, hn⟩])
          clear hn
          go_wp2
          go_ret2
          exact ⟨by rw [HF.out]; rfl, HTX.out⟩
        · have e0 : (x.f0.toList == n.toList) = false := beq_eq_false_iff_ne.2 hn
          have HF := Lib.hid (show findF n 0 L = findF n (k + 1) (L.drop (k + 1)) by rw [HEQ.out, HST.out, if_neg (fun h => hn h.2)])
          clear hn
          go_wp2
          clear e0
          go_roundw
          case rel => exact ⟨k + 1, by omega, by go_num, Lib.hid ⟨HTX.out, HF.out⟩⟩
          case measure => simp [intOf]; omega
      · have HF := Lib.hid (show findF n 0 L = findF n (k + 1) (L.drop (k + 1)) by rw [HEQ.out, HST.out, if_neg (fun h => h0 h.1)])
        go_wp2
        go_roundw
        case rel => exact ⟨k + 1, by omega, by go_num, Lib.hid ⟨HTX.out, HF.out⟩⟩
        case measure => simp [intOf]; omega
    · have HF := Lib.hid (show findF n 0 L = none by rw [HR.out.2, List.drop_eq_nil_of_le (by omega)]; cases k <;> rfl)
      have HBB := Lib.hid HR.out.1
      clear HR
      go_wp2
      go_ret2
      exact ⟨by rw [HF.out]; rfl, HBB.out⟩
end Go.Proofs.YthphhogljniofaaDoor

/- Contracts over this translation, two sections: Sections. -/
namespace Go.Proofs.YthphhogljniofaaDoor
set_option linter.unusedVariables false
set_option linter.unusedSimpArgs false
open Go.RowKit Go.Proofs.YthphhogljniofaaDoorX.Kd Go.Proofs.YthphhogljniofaaDoorW.PrintWords Go.Proofs.YthphhogljniofaaDoorW.PrintLast Go.Proofs.YthphhogljniofaaDoorW.PrintMore

theorem eqC_congr {α β : Type} {a b : α} {c d : β} (h : a = b ↔ c = d) : eqC a b = eqC c d := by
  by_cases h1 : a = b
  · rw [eqC_true h1, eqC_true (h.1 h1)]
  · rw [eqC_false h1, eqC_false (fun h2 => h1 (h.2 h2))]
set_option maxRecDepth 100000 in
set_option maxHeartbeats 16000000 in
theorem sameSecs_any (x y : S58) (A10 A11 A12 B10 B11 B12 : Option Addr) (c10 c11 c12 d10 d11 d12 : Nat) (w : World) (l10 : x.f10.length ≤ c10) (g10 : Kd.C k61 w A10 x.f10.length x.f10) (l11 : x.f11.length ≤ c11) (g11 : Kd.C k63 w A11 x.f11.length x.f11) (l12 : x.f12.length ≤ c12) (g12 : Kd.C (Kd.int .u64) w A12 x.f12.length x.f12) (m10 : y.f10.length ≤ d10) (j10 : Kd.C k61 w B10 y.f10.length y.f10) (m11 : y.f11.length ≤ d11) (j11 : Kd.C k63 w B11 y.f11.length y.f11) (m12 : y.f12.length ≤ d12) (j12 : Kd.C (Kd.int .u64) w B12 y.f12.length y.f12) :
    Calls Tryd.prog 15 #[.agg #[.string x.f0, .int .u64 x.f1, .int .u64 x.f2, .int .u64 x.f3, .int .u64 x.f4, .int .u64 x.f5, .int .u64 x.f6, .int .u64 x.f7, .int .u64 x.f8, .string x.f9, .slice A10 x.f10.length c10, .slice A11 x.f11.length c11, .slice A12 x.f12.length c12], .agg #[.string y.f0, .int .u64 y.f1, .int .u64 y.f2, .int .u64 y.f3, .int .u64 y.f4, .int .u64 y.f5, .int .u64 y.f6, .int .u64 y.f7, .int .u64 y.f8, .string y.f9, .slice B10 y.f10.length d10, .slice B11 y.f11.length d11, .slice B12 y.f12.length d12]] w fun e w' => e = .returned (.bool (eqC x y)) ∧ Below w.heap.size w w' := by
  have HF := Lib.hid (fun W (hb : Below w.heap.size w W) => where_any x y A10 A11 A12 B10 B11 B12 c10 c11 c12 d10 d11 d12 W l10 (Kd.C_below g10 hb) l11 (Kd.C_below g11 hb) l12 (Kd.C_below g12 hb) m10 (Kd.C_below j10 hb) m11 (Kd.C_below j11 hb) m12 (Kd.C_below j12 hb))
  clear l10 g10 l11 g11 l12 g12 m10 j10 m11 j11 m12 j12
  rw [← eqC_congr (a := whereR x y) (b := (⟨#[]⟩ : ByteArray)) whereR_nil]
  obtain ⟨d, hd1⟩ : ∃ d, d = whereR x y := ⟨_, rfl⟩
  rw [← hd1] at HF ⊢
  clear hd1
  go_enter Tryd.func15, Tryd.ntmps15
  go_wp2_with (first | (go_at_call 24; refine (HF.out _ (below_alloc (below_alloc (Below.refl _ _) _) _)).mono ?_; rintro e w1 ⟨rfl, hb1⟩; have HB := Lib.hid ((below_alloc (below_alloc (Below.refl w.heap.size w) _) _ : Below w.heap.size w _).trans (hb1.mono (by simp; omega))); clear hb1))
  go_ret
  exact ⟨by first | (rw [← ba_empty]; rfl) | (rw [← ba_isEmpty]; rfl), HB.out⟩
end Go.Proofs.YthphhogljniofaaDoor

/- Contracts over this translation, two models: the names that only one of them has. -/
namespace Go.Proofs.YthphhogljniofaaDoor
set_option linter.unusedVariables false
set_option linter.unusedSimpArgs false
open Go.RowKit Go.Proofs.YthphhogljniofaaDoorX.Kd Go.Proofs.YthphhogljniofaaDoorW.PrintWords Go.Proofs.YthphhogljniofaaDoorW.PrintLast Go.Proofs.YthphhogljniofaaDoorW.PrintMore

/-- The names of the sections that only the first has, the nought-th apart, in order. -/
def onlyL (BL : List S58) : Nat → List S58 → List (List UInt8)
  | _, [] => []
  | k, x :: xs => (if (decide (0 < k) && !(findF x.f0 0 BL).isSome) = true then [x.f0.data.toList] else []) ++ onlyL BL (k + 1) xs
/-- A map of names, as a datum. -/
def nameD : List (List UInt8) → DataW Unit
  | [] => .map []
  | s :: r => (nameD r).put (.string s) (.lit (.bool true))
theorem nameD_isMap : ∀ ss, Maps.IsMap (nameD ss)
  | [] => Maps.isMap_empty
  | s :: r => (nameD_isMap r).put _ _
theorem nameD_has (s : List UInt8) : ∀ ss : List (List UInt8), Maps.has (nameD ss) (.string s) = true ↔ s ∈ ss
  | [] => by simp [nameD, Maps.has_eq]
  | x :: r => by
    unfold nameD
    by_cases h : s = x
    · subst h
      rw [Maps.has_put_same (nameD_isMap r) (by simp [WideAt.IsKeyLit])]
      simp
    · rw [Maps.has_put_other (fun e => h (by injection e)), nameD_has s r]
      simp [h]
def dedup : List (List UInt8) → List (List UInt8)
  | [] => []
  | x :: r => if x ∈ r then dedup r else x :: dedup r
theorem mem_dedup (s : List UInt8) : ∀ ss, s ∈ dedup ss ↔ s ∈ ss
  | [] => Iff.rfl
  | x :: r => by
    unfold dedup
    split
    · rename_i h; rw [mem_dedup s r, List.mem_cons]; exact ⟨.inr, fun h2 => h2.elim (fun e => e ▸ h) id⟩
    · rw [List.mem_cons, List.mem_cons, mem_dedup s r]
theorem nodup_dedup : ∀ ss, (dedup ss).Nodup
  | [] => List.nodup_nil
  | x :: r => by
    unfold dedup
    split
    · exact nodup_dedup r
    · rename_i h; exact List.nodup_cons.2 ⟨fun h2 => h ((mem_dedup x r).1 h2), nodup_dedup r⟩
theorem len_dedup : ∀ ss, (dedup ss).length ≤ ss.length
  | [] => Nat.le_refl _
  | x :: r => by
    unfold dedup
    have := len_dedup r
    split <;> simp <;> omega
/-- The keys of the map of names. -/
theorem name_keys {W : World} {b n : Nat} {ss : List (List UInt8)} (h : W.ownsMap Tryd.prog 9 (plainElem (H := Unit) Tryd.prog 4) b n (nameD ss)) : (dedup ss).Perm (strKeys (nameD ss)) := by
  obtain ⟨es, hD, hp, hl⟩ := h.entries (Maps.string_keyed Tryd.underlying9)
  obtain ⟨es', hD', hk⟩ := h.keysOf
  have he : es' = es := by rw [hD] at hD'; injection hD' with h; exact h.symm
  subst he
  have hm := fun x => nameD_has x ss
  rw [hD] at hm ⊢
  exact perm_strKeys hp (fun p hp => by
    obtain ⟨key, hkey⟩ := hk p hp
    obtain ⟨x, _, hx, _⟩ := Maps.keyOf_str Tryd.underlying9 hkey
    exact ⟨x, hx⟩) (nodup_dedup ss) (fun x => (mem_dedup x ss).trans (hm x).symm)
/-- Where only stands. -/
def OSt (w0 wx : World) (AC BC : Array Value) (n : Nat) (ss : List (List UInt8)) : Prop :=
  wx.heap[w0.heap.size]? = some (.cells AC 39 (0, 0)) ∧ wx.heap[w0.heap.size + 1]? = some (.cells BC 39 (0, 0)) ∧ Below w0.heap.size w0 wx ∧ wx.ownsMap Tryd.prog 9 (plainElem (H := Unit) Tryd.prog 4) (w0.heap.size + 2) n (nameD ss)
theorem OSt.below {w0 wx wy : World} {AC BC : Array Value} {n : Nat} {ss : List (List UInt8)} (h : OSt w0 wx AC BC n ss) (hb : Below wx.heap.size wx wy) : OSt w0 wy AC BC n ss := by
  obtain ⟨h1, h2, h3, es, clock, h4, h5⟩ := h
  exact ⟨blk_below h1 hb, blk_below h2 hb, h3.trans (hb.mono h3.size), es, clock, blk_below h4 hb, h5⟩
theorem OSt.upd {w0 wx : World} {AC BC : Array Value} {n : Nat} {ss : List (List UInt8)} (h : OSt w0 wx AC BC n ss) (s : ByteArray) (hs : s.size ≤ maxLen) (hn : n < maxLen) :
    ∃ W3, (Instr.mapUpdate 113 (.map (some (w0.heap.size + 2))) (.string s) (.bool true)).run Tryd.prog wx = .ok () W3 ∧ OSt w0 W3 AC BC (n + 1) (s.data.toList :: ss) := by
  obtain ⟨h1, h2, h3, h4⟩ := h
  obtain ⟨W3, hrun3, hown3, hg3⟩ := h4.update (Maps.string_keyed Tryd.underlying9) Tryd.underlying113 hn (Go.WideMaps.keyOf_string_mk Tryd.underlying9 hs) (plainElem_bool Tryd.underlying4 true)
  exact ⟨W3, hrun3, blk_grown h1 hg3 (by simp), blk_grown h2 hg3 (by simp), h3.grown hg3 h3.size (fun k e => by cases e; omega), hown3⟩

set_option maxRecDepth 100000 in
set_option maxHeartbeats 16000000 in
theorem only_any (a b : MdD) (ha : a.L.length ≤ 16) (hsz : ∀ x ∈ a.L, x.f0.size ≤ 9223372036854775807) (A9 A10 B9 B10 : Option Addr) (c9 c10 d9 d10 : Nat) (w : World) (hA9 : Kd.C k58 w A9 a.L.length a.L) (hB9 : Kd.C k58 w B9 b.L.length b.L) :
    Calls Tryd.prog 31 #[.agg #[.bool a.big, .bool a.wide, .int .u8 a.abi, .int .u8 a.ver, .string a.pad, .int .u64 a.ty, .int .u64 a.mc, .int .u64 a.en, .int .u64 a.fg, .int .u64 a.nm, .slice A9 a.L.length c9, .slice A10 a.D.length c10], .agg #[.bool b.big, .bool b.wide, .int .u8 b.abi, .int .u8 b.ver, .string b.pad, .int .u64 b.ty, .int .u64 b.mc, .int .u64 b.en, .int .u64 b.fg, .int .u64 b.nm, .slice B9 b.L.length d9, .slice B10 b.D.length d10]] w fun e w' => ∃ (v : Value) (ss : List (List UInt8)), e = .returned v ∧ Kd.R Kd.string 9 w' w.heap.size (fun _ => True) v (ss.map (fun s => (⟨s.toArray⟩ : ByteArray))) ∧ ss.Pairwise (· < ·) ∧ (∀ s, s ∈ ss ↔ s ∈ onlyL b.L 0 a.L) ∧ ss.length ≤ 16 ∧ Below w.heap.size w w' := by
  have HA9 := Lib.hid hA9
  have HF := Lib.hid (fun W (hb : Below w.heap.size w W) n => find_any b.big b.wide b.abi b.ver b.pad b.ty b.mc b.en b.fg b.nm b.L b.D n B9 B10 d9 d10 W (Kd.C_below hB9 hb))
  have HSZ := Lib.hid hsz
  clear hA9 hB9 hsz
  go_enter Tryd.func31, Tryd.ntmps31
  have hmm := @run_makeMap Tryd.prog
  go_upto_region 2 with (fail)
  clear hmm
  obtain ⟨wA, hwA⟩ : ∃ wA, wA = ((w.alloc (.cells #[.bool a.big, .bool a.wide, .int .u8 a.abi, .int .u8 a.ver, .string a.pad, .int .u64 a.ty, .int .u64 a.mc, .int .u64 a.en, .int .u64 a.fg, .int .u64 a.nm, .slice A9 a.L.length c9, .slice A10 a.D.length c10] 39)).alloc (.cells #[.bool b.big, .bool b.wide, .int .u8 b.abi, .int .u8 b.ver, .string b.pad, .int .u64 b.ty, .int .u64 b.mc, .int .u64 b.en, .int .u64 b.fg, .int .u64 b.nm, .slice B9 b.L.length d9, .slice B10 b.D.length d10] 39)).alloc (.map #[] 0) := ⟨_, rfl⟩
  have HT := Lib.hid (show OSt w wA #[.bool a.big, .bool a.wide, .int .u8 a.abi, .int .u8 a.ver, .string a.pad, .int .u64 a.ty, .int .u64 a.mc, .int .u64 a.en, .int .u64 a.fg, .int .u64 a.nm, .slice A9 a.L.length c9, .slice A10 a.D.length c10] #[.bool b.big, .bool b.wide, .int .u8 b.abi, .int .u8 b.ver, .string b.pad, .int .u64 b.ty, .int .u64 b.mc, .int .u64 b.en, .int .u64 b.fg, .int .u64 b.nm, .slice B9 b.L.length d9, .slice B10 b.D.length d10] 0 [] from by
    have h1 := blk_new (w.alloc (.cells #[.bool a.big, .bool a.wide, .int .u8 a.abi, .int .u8 a.ver, .string a.pad, .int .u64 a.ty, .int .u64 a.mc, .int .u64 a.en, .int .u64 a.fg, .int .u64 a.nm, .slice A9 a.L.length c9, .slice A10 a.D.length c10] 39)) (.cells #[.bool b.big, .bool b.wide, .int .u8 b.abi, .int .u8 b.ver, .string b.pad, .int .u64 b.ty, .int .u64 b.mc, .int .u64 b.en, .int .u64 b.fg, .int .u64 b.nm, .slice B9 b.L.length d9, .slice B10 b.D.length d10] 39)
    rw [World.size_alloc] at h1
    rw [hwA]
    have h2 := World.ownsMap_made ((w.alloc (.cells #[.bool a.big, .bool a.wide, .int .u8 a.abi, .int .u8 a.ver, .string a.pad, .int .u64 a.ty, .int .u64 a.mc, .int .u64 a.en, .int .u64 a.fg, .int .u64 a.nm, .slice A9 a.L.length c9, .slice A10 a.D.length c10] 39)).alloc (.cells #[.bool b.big, .bool b.wide, .int .u8 b.abi, .int .u8 b.ver, .string b.pad, .int .u64 b.ty, .int .u64 b.mc, .int .u64 b.en, .int .u64 b.fg, .int .u64 b.nm, .slice B9 b.L.length d9, .slice B10 b.D.length d10] 39)) Tryd.prog 9 (plainElem (H := Unit) Tryd.prog 4)
    rw [World.size_alloc, World.size_alloc] at h2
    exact ⟨blk_alloc (blk_alloc (blk_new w _) _) _, blk_alloc h1 _, (((Below.refl _ _).alloc (Nat.le_refl _) _).alloc (by simp) _).alloc (by simp; omega) _, h2⟩)
  rw [← hwA]
  clear hwA
  have p10 := blk_cell HT.out.1 10
  simp only [List.getElem?_toArray, List.getElem?_cons_succ, List.getElem?_cons_zero] at p10
  go_wp2
  clear p10
  go_loopw [14] (fun i wr => ∃ (k n : Nat) (ss : List (List UInt8)), k ≤ a.L.length ∧ i = .int .i64 k ∧ Hid (OSt w wr #[.bool a.big, .bool a.wide, .int .u8 a.abi, .int .u8 a.ver, .string a.pad, .int .u64 a.ty, .int .u64 a.mc, .int .u64 a.en, .int .u64 a.fg, .int .u64 a.nm, .slice A9 a.L.length c9, .slice A10 a.D.length c10] #[.bool b.big, .bool b.wide, .int .u8 b.abi, .int .u8 b.ver, .string b.pad, .int .u64 b.ty, .int .u64 b.mc, .int .u64 b.en, .int .u64 b.fg, .int .u64 b.nm, .slice B9 b.L.length d9, .slice B10 b.D.length d10] n ss ∧ n ≤ k ∧ ss.length ≤ k ∧ onlyL b.L 0 a.L = ss.reverse ++ onlyL b.L k (a.L.drop k))) (fun i _ => a.L.length - (intOf i).toNat)
  case atStart => exact ⟨0, 0, [], Nat.zero_le _, rfl, Lib.hid ⟨HT.out, Nat.le_refl _, Nat.le_refl _, rfl⟩⟩
  case round =>
    obtain ⟨k, n, ss, hk1, rfl, HR⟩ := hrel
    clear HT
    by_cases hlt : k < a.L.length
    · obtain ⟨ad, A0, a0, A1, a1, A2, a2, hA, o0, o1, o2, o3, o4, o5, o6, o7, o8, o9, o10, o11, o12, l0, g0, l1, g1, l2, g2⟩ := at_T58 HA9.out (k : Int) (by omega) (by omega)
      subst hA
      rw [Int.toNat_natCast] at o0 o1 o2 o3 o4 o5 o6 o7 o8 o9 o10 o11 o12
      obtain ⟨x, hxe⟩ : ∃ x, x = rd_T58 a.L (k : Int) := ⟨_, rfl⟩
      have HX := Lib.hid (show a.L[k] = x by rw [hxe]; unfold rd_T58; rw [Int.toNat_natCast]; simp [List.getD, hlt])
      rw [← hxe] at o0 o1 o2 o3 o4 o5 o6 o7 o8 o9 o10 o11 o12 l0 g0 l1 g1 l2 g2
      clear hxe l0 g0 l1 g1 l2 g2
      have p0 := (HR.out.1.2.2.1.cell (World.block_lt_of_cell? w _ o0)).trans o0
      have p1 := (HR.out.1.2.2.1.cell (World.block_lt_of_cell? w _ o1)).trans o1
      have p2 := (HR.out.1.2.2.1.cell (World.block_lt_of_cell? w _ o2)).trans o2
      have p3 := (HR.out.1.2.2.1.cell (World.block_lt_of_cell? w _ o3)).trans o3
      have p4 := (HR.out.1.2.2.1.cell (World.block_lt_of_cell? w _ o4)).trans o4
      have p5 := (HR.out.1.2.2.1.cell (World.block_lt_of_cell? w _ o5)).trans o5
      have p6 := (HR.out.1.2.2.1.cell (World.block_lt_of_cell? w _ o6)).trans o6
      have p7 := (HR.out.1.2.2.1.cell (World.block_lt_of_cell? w _ o7)).trans o7
      have p8 := (HR.out.1.2.2.1.cell (World.block_lt_of_cell? w _ o8)).trans o8
      have p9 := (HR.out.1.2.2.1.cell (World.block_lt_of_cell? w _ o9)).trans o9
      have p10 := (HR.out.1.2.2.1.cell (World.block_lt_of_cell? w _ o10)).trans o10
      have p11 := (HR.out.1.2.2.1.cell (World.block_lt_of_cell? w _ o11)).trans o11
      have p12 := (HR.out.1.2.2.1.cell (World.block_lt_of_cell? w _ o12)).trans o12
      clear o0 o1 o2 o3 o4 o5 o6 o7 o8 o9 o10 o11 o12
      have hbig : n < maxLen := by have := HR.out.2.1; unfold maxLen; omega
      go_upto_region 5 with (fail)
      clear p0 p1 p2 p3 p4 p5 p6 p7 p8 p9 p10 p11 p12
      obtain ⟨wX, hwX⟩ : ∃ wX, wX = wr.alloc (.cells #[.string x.f0, .int .u64 x.f1, .int .u64 x.f2, .int .u64 x.f3, .int .u64 x.f4, .int .u64 x.f5, .int .u64 x.f6, .int .u64 x.f7, .int .u64 x.f8, .string x.f9, .slice A0 x.f10.length a0, .slice A1 x.f11.length a1, .slice A2 x.f12.length a2] 58) := ⟨_, rfl⟩
      have HTX := Lib.hid (show OSt w wX _ _ n ss from by rw [hwX]; exact HR.out.1.below (below_alloc (Below.refl _ _) _))
      have HX0 := Lib.hid (show wX.heap[wr.heap.size]? = some (.cells #[.string x.f0, .int .u64 x.f1, .int .u64 x.f2, .int .u64 x.f3, .int .u64 x.f4, .int .u64 x.f5, .int .u64 x.f6, .int .u64 x.f7, .int .u64 x.f8, .string x.f9, .slice A0 x.f10.length a0, .slice A1 x.f11.length a1, .slice A2 x.f12.length a2] 58 (0, 0)) by rw [hwX]; exact blk_new wr _)
      have r0 := blk_cell HX0.out 0
      simp only [List.getElem?_toArray, List.getElem?_cons_succ, List.getElem?_cons_zero] at r0
      rw [← hwX]
      clear hwX
      have HEQ := Lib.hid HR.out.2
      clear HR
      have hxs : x.f0.size ≤ maxLen := by rw [← HX.out]; exact HSZ.out _ (List.getElem_mem hlt)
      obtain ⟨tb, htb⟩ : ∃ tb : Bool, (findF x.f0 0 b.L).isSome = tb := ⟨_, rfl⟩
      obtain ⟨tk, htk⟩ : ∃ tk : Bool, decide (0 < k) = tk := ⟨_, rfl⟩
      obtain ⟨fi, hfi⟩ : ∃ fi : Nat, (findF x.f0 0 b.L).getD 0 = fi := ⟨_, rfl⟩
      have HST := Lib.hid (show onlyL b.L k (a.L.drop k) = (if (tk && !tb) = true then [x.f0.data.toList] else []) ++ onlyL b.L (k + 1) (a.L.drop (k + 1)) by
        rw [List.drop_eq_getElem_cons hlt, HX.out, ← htb, ← htk]; rfl)
      have HFX := Lib.hid (HF.out wX HTX.out.2.2.1 x.f0)
      rw [hfi, htb] at HFX
      clear hfi htb
      have hk0 : ((0 : Int) < (k : Int)) ↔ tk = true := by rw [← htk, decide_eq_true_iff]; omega
      have q0 := blk_cell HTX.out.2.1 0
      have q1 := blk_cell HTX.out.2.1 1
      have q2 := blk_cell HTX.out.2.1 2
      have q3 := blk_cell HTX.out.2.1 3
      have q4 := blk_cell HTX.out.2.1 4
      have q5 := blk_cell HTX.out.2.1 5
      have q6 := blk_cell HTX.out.2.1 6
      have q7 := blk_cell HTX.out.2.1 7
      have q8 := blk_cell HTX.out.2.1 8
      have q9 := blk_cell HTX.out.2.1 9
      have q10 := blk_cell HTX.out.2.1 10
      have q11 := blk_cell HTX.out.2.1 11
      simp only [List.getElem?_toArray, List.getElem?_cons_succ, List.getElem?_cons_zero] at q0 q1 q2 q3 q4 q5 q6 q7 q8 q9 q10 q11
      have hkk : (decide ((0 : Int) < (k : Int))) = tk := by rw [← htk]; simp
      clear htk
      cases tk
      · have hk3 : ¬ ((0 : Int) < (k : Int)) := fun h => by have := hk0.1 h; cases this
        clear hk0 hkk
        go_wp2_with (first | (go_at_call 32; refine HFX.out.mono ?_; rintro e w1 ⟨rfl, hb1⟩; have HT1 := Lib.hid (HTX.out.below hb1); clear hb1))
        go_roundw
        case rel => exact ⟨k + 1, n, ss, by omega, by go_num, Lib.hid ⟨HT1.out, by have := HEQ.out.1; omega, by have := HEQ.out.2.1; omega, by rw [HEQ.out.2.2, HST.out, if_neg (by simp), List.nil_append]⟩⟩
        case measure => simp [intOf]; omega
      · have hk3 : (0 : Int) < (k : Int) := hk0.2 rfl
        clear hk0 hkk
        cases tb
        · go_wp2_with (first | (go_at_call 32; refine HFX.out.mono ?_; rintro e w1 ⟨rfl, hb1⟩; have HT1 := Lib.hid (HTX.out.below hb1); have r1 := blk_cell (blk_below HX0.out hb1) 0; simp only [List.getElem?_toArray, List.getElem?_cons_succ, List.getElem?_cons_zero] at r1; obtain ⟨W3, hrun3, hT3⟩ := HT1.out.upd x.f0 hxs hbig; have HT3 := Lib.hid hT3; clear hb1 hT3))
          go_roundw
          case rel => exact ⟨k + 1, n + 1, x.f0.data.toList :: ss, by omega, by go_num, Lib.hid ⟨HT3.out, by have := HEQ.out.1; omega, by have := HEQ.out.2.1; simp; omega, by rw [HEQ.out.2.2, HST.out, if_pos (by rfl), List.reverse_cons, List.append_assoc]⟩⟩
          case measure => simp [intOf]; omega
        · go_wp2_with (first | (go_at_call 32; refine HFX.out.mono ?_; rintro e w1 ⟨rfl, hb1⟩; have HT1 := Lib.hid (HTX.out.below hb1); clear hb1))
          go_roundw
          case rel => exact ⟨k + 1, n, ss, by omega, by go_num, Lib.hid ⟨HT1.out, by have := HEQ.out.1; omega, by have := HEQ.out.2.1; omega, by rw [HEQ.out.2.2, HST.out, if_neg (by simp), List.nil_append]⟩⟩
          case measure => simp [intOf]; omega
    · have hmap := HR.out.1.2.2.2
      have hperm := name_keys hmap
      have hsl := HR.out.2.2.1
      have hlen := len_dedup ss
      have hsize : Maps.size (nameD ss) ≤ 16 := by
        obtain ⟨es, hes, _⟩ := hmap.entries (Maps.string_keyed Tryd.underlying9)
        have h1 := hperm.length_eq
        rw [hes] at h1 ⊢
        have h2 : (strKeys (.map es : DataW Unit)).length = es.length := by simp [strKeys]
        show es.length ≤ 16
        omega
      have HS := Lib.hid (Tryd.slices_Sorted_keys_42_43 (w.heap.size + 2) n (nameD ss) _ wr hmap (by unfold maxLen; omega) (by omega))
      have HK := Lib.hid (Tryd.maps_Keys_43 (some (w.heap.size + 2)) wr)
      have HPERM := Lib.hid hperm
      have HOE := Lib.hid (show ∀ s, s ∈ onlyL b.L 0 a.L ↔ s ∈ dedup ss by
        intro s
        rw [HR.out.2.2.2, List.drop_eq_nil_of_le (by omega), mem_dedup]
        simp [onlyL])
      have HB := Lib.hid HR.out.1.2.2.1
      clear hmap hperm HR
      go_wp2_with (first
        | (go_at_call 43; refine ((callsIn_wide (n := 5)).1 HK.out).mono ?_; rintro e w1 ⟨rfl, rfl⟩)
        | (go_at_call 42; refine ((callsIn_wide (n := 5)).1 HS.out).mono ?_; rintro e w2 ⟨v, s2, rfl, hS, hrow, hnil, hb⟩; have HS2 := Lib.hid hS; have HRW := Lib.hid hrow; have HB2 := Lib.hid hb; clear hS hrow hnil hb))
      go_ret
      have hP := HS2.out.trans HPERM.out.symm
      refine ⟨v, s2.mergeSort (fun x y => decide (x ≤ y)), rfl, ?_, ?_, ?_, ?_, ?_⟩
      · refine Kd.R_of_own ?_ (fun _ _ => trivial)
        have h1 := ownsRow_base_a (base' := w.heap.size) HRW.out (by have := HB.out.size; simp; omega)
        rw [List.length_map, List.length_mergeSort]
        refine cast ?_ h1
        congr 1
        simp [encs, encStr]
      · have tr : ∀ x y z : List UInt8, decide (x ≤ y) = true → decide (y ≤ z) = true → decide (x ≤ z) = true := fun x y z h1 h2 => by simp only [decide_eq_true_eq] at *; exact List.le_trans h1 h2
        have tot : ∀ x y : List UInt8, (decide (x ≤ y) || decide (y ≤ x)) = true := fun x y => by simp only [Bool.or_eq_true, decide_eq_true_eq]; exact List.le_total x y
        have h1 := List.pairwise_mergeSort tr tot s2
        have h2 : (s2.mergeSort (fun x y => decide (x ≤ y))).Nodup := ((List.mergeSort_perm s2 _).nodup_iff).2 (hP.nodup_iff.2 (nodup_dedup ss))
        refine (h1.and h2).imp ?_
        rintro x y ⟨h3, h4⟩
        rw [decide_eq_true_eq] at h3
        exact Std.lt_of_le_of_ne h3 h4
      · intro s
        rw [List.mem_mergeSort, HOE.out]
        exact hP.mem_iff
      · rw [List.length_mergeSort, hP.length_eq]; have := len_dedup ss; omega
      · exact (HB.out.alloc (by have := HB.out.size; omega) _).trans (HB2.out.mono (by have := HB.out.size; simp; omega))
end Go.Proofs.YthphhogljniofaaDoor

/- Contracts over this translation, two models: Shared. -/
namespace Go.Proofs.YthphhogljniofaaDoor
set_option linter.unusedVariables false
set_option linter.unusedSimpArgs false
open Go.RowKit Go.Proofs.YthphhogljniofaaDoorX.Kd Go.Proofs.YthphhogljniofaaDoorW.PrintWords Go.Proofs.YthphhogljniofaaDoorW.PrintLast Go.Proofs.YthphhogljniofaaDoorW.PrintMore
attribute [local go_sem] max2_int min2_int max_two min_two

/-- The numbers of the sections that are the same. -/
noncomputable def sharedR : Nat → List S58 → List S58 → List Int
  | k, x :: xs, y :: ys => if eqC x y = true then (k : Int) :: sharedR (k + 1) xs ys else sharedR (k + 1) xs ys
  | _, _, _ => []
theorem sharedR_nil (k : Nat) (xs ys : List S58) (h : xs = [] ∨ ys = []) : sharedR k xs ys = [] := by
  rcases h with rfl | rfl
  · unfold sharedR; rfl
  · cases xs <;> rfl
theorem sharedR_cons (k : Nat) (x y : S58) (xs ys : List S58) : sharedR k (x :: xs) (y :: ys) = (if eqC x y = true then [(k : Int)] else []) ++ sharedR (k + 1) xs ys := by
  by_cases h : eqC x y = true
  · rw [if_pos h]; show (if eqC x y = true then _ else _) = _; rw [if_pos h]; rfl
  · rw [if_neg h]; show (if eqC x y = true then _ else _) = _; rw [if_neg h]; rfl
theorem DSt.grown {w0 wx wy : World} {AC BC : Array Value} {row : Option Nat} (h : DSt w0 wx AC BC) (hg : wx.grownBy wy row) (hb : Below w0.heap.size w0 wy) (hr : ∀ j, row = some j → w0.heap.size + 1 < j) : DSt w0 wy AC BC :=
  ⟨blk_grown h.1 hg (fun e => by have := hr _ e.symm; omega), blk_grown h.2.1 hg (fun e => by have := hr _ e.symm; omega), hb⟩
set_option maxRecDepth 100000 in
set_option maxHeartbeats 32000000 in
theorem shared_any (a b : MdD) (ha : a.L.length ≤ 16) (hb : b.L.length ≤ 16) (A9 A10 B9 B10 : Option Addr) (c9 c10 d9 d10 : Nat) (w : World) (hA9 : Kd.C k58 w A9 a.L.length a.L) (hB9 : Kd.C k58 w B9 b.L.length b.L) :
    Calls Tryd.prog 16 #[.agg #[.bool a.big, .bool a.wide, .int .u8 a.abi, .int .u8 a.ver, .string a.pad, .int .u64 a.ty, .int .u64 a.mc, .int .u64 a.en, .int .u64 a.fg, .int .u64 a.nm, .slice A9 a.L.length c9, .slice A10 a.D.length c10], .agg #[.bool b.big, .bool b.wide, .int .u8 b.abi, .int .u8 b.ver, .string b.pad, .int .u64 b.ty, .int .u64 b.mc, .int .u64 b.en, .int .u64 b.fg, .int .u64 b.nm, .slice B9 b.L.length d9, .slice B10 b.D.length d10]] w fun e w' => ∃ v, e = .returned v ∧ Kd.R (Kd.int .i64) 3 w' w.heap.size (fun _ => True) v (sharedR 0 a.L b.L) ∧ Below w.heap.size w w' := by
  have HA9 := Lib.hid hA9
  have HB9 := Lib.hid hB9
  clear hA9 hB9
  obtain ⟨m, hm⟩ : ∃ m : Nat, m = min a.L.length b.L.length := ⟨_, rfl⟩
  have hma : m ≤ a.L.length := by omega
  have hmb : m ≤ b.L.length := by omega
  have HMM := Lib.hid hm
  clear hm
  go_enter Tryd.func16, Tryd.ntmps16
  go_upto_region 1 with (fail)
  obtain ⟨wA, hwA⟩ : ∃ wA, wA = (w.alloc (.cells #[.bool a.big, .bool a.wide, .int .u8 a.abi, .int .u8 a.ver, .string a.pad, .int .u64 a.ty, .int .u64 a.mc, .int .u64 a.en, .int .u64 a.fg, .int .u64 a.nm, .slice A9 a.L.length c9, .slice A10 a.D.length c10] 39)).alloc (.cells #[.bool b.big, .bool b.wide, .int .u8 b.abi, .int .u8 b.ver, .string b.pad, .int .u64 b.ty, .int .u64 b.mc, .int .u64 b.en, .int .u64 b.fg, .int .u64 b.nm, .slice B9 b.L.length d9, .slice B10 b.D.length d10] 39) := ⟨_, rfl⟩
  have HT := Lib.hid (show DSt w wA #[.bool a.big, .bool a.wide, .int .u8 a.abi, .int .u8 a.ver, .string a.pad, .int .u64 a.ty, .int .u64 a.mc, .int .u64 a.en, .int .u64 a.fg, .int .u64 a.nm, .slice A9 a.L.length c9, .slice A10 a.D.length c10] #[.bool b.big, .bool b.wide, .int .u8 b.abi, .int .u8 b.ver, .string b.pad, .int .u64 b.ty, .int .u64 b.mc, .int .u64 b.en, .int .u64 b.fg, .int .u64 b.nm, .slice B9 b.L.length d9, .slice B10 b.D.length d10] from by
    have h1 := blk_new (w.alloc (.cells #[.bool a.big, .bool a.wide, .int .u8 a.abi, .int .u8 a.ver, .string a.pad, .int .u64 a.ty, .int .u64 a.mc, .int .u64 a.en, .int .u64 a.fg, .int .u64 a.nm, .slice A9 a.L.length c9, .slice A10 a.D.length c10] 39)) (.cells #[.bool b.big, .bool b.wide, .int .u8 b.abi, .int .u8 b.ver, .string b.pad, .int .u64 b.ty, .int .u64 b.mc, .int .u64 b.en, .int .u64 b.fg, .int .u64 b.nm, .slice B9 b.L.length d9, .slice B10 b.D.length d10] 39)
    rw [World.size_alloc] at h1
    rw [hwA]
    exact ⟨blk_alloc (blk_new w _) _, h1, ((Below.refl _ _).alloc (Nat.le_refl _) _).alloc (by simp) _⟩)
  rw [← hwA]
  clear hwA
  have p10 := blk_cell HT.out.1 10
  have q10 := blk_cell HT.out.2.1 10
  simp only [List.getElem?_toArray, List.getElem?_cons_succ, List.getElem?_cons_zero] at p10 q10
  go_wp2
  all_goals (
  clear p10 q10
  first | rw [show (b.L.length : Int) = (m : Int) by have := HMM.out; omega] | rw [show (a.L.length : Int) = (m : Int) by have := HMM.out; omega]
  go_loopw [5, 14] (fun o i wr => ∃ (k : Nat) (XS : List Int), k ≤ m ∧ i = .int .i64 k ∧ Hid (DSt w wr #[.bool a.big, .bool a.wide, .int .u8 a.abi, .int .u8 a.ver, .string a.pad, .int .u64 a.ty, .int .u64 a.mc, .int .u64 a.en, .int .u64 a.fg, .int .u64 a.nm, .slice A9 a.L.length c9, .slice A10 a.D.length c10] #[.bool b.big, .bool b.wide, .int .u8 b.abi, .int .u8 b.ver, .string b.pad, .int .u64 b.ty, .int .u64 b.mc, .int .u64 b.en, .int .u64 b.fg, .int .u64 b.nm, .slice B9 b.L.length d9, .slice B10 b.D.length d10] ∧ Kd.R (Kd.int .i64) 3 wr w.heap.size (fun j => w.heap.size + 1 < j) o XS ∧ XS.length ≤ k ∧ sharedR 0 a.L b.L = XS ++ sharedR k (a.L.drop k) (b.L.drop k))) (fun _ i _ => m - (intOf i).toNat)
  case atStart => exact ⟨0, [], Nat.zero_le _, rfl, Lib.hid ⟨HT.out, Kd.R_nil _ _ _ _ _, Nat.le_refl _, rfl⟩⟩
  case round =>
    obtain ⟨k, XS, hk1, rfl, HR⟩ := hrel
    clear HT
    obtain ⟨AX, cX, rfl⟩ := Kd.R_slice HR.out.2.1
    by_cases hlt : k < m
    · have hla : k < a.L.length := by omega
      have hbl : k < b.L.length := by omega
      obtain ⟨ad, A0, a0, A1, a1, A2, a2, hA, o0, o1, o2, o3, o4, o5, o6, o7, o8, o9, o10, o11, o12, l0, g0, l1, g1, l2, g2⟩ := at_T58 HA9.out (k : Int) (by omega) (by omega)
      obtain ⟨bd, B0, b0, B1, b1, B2, b2, hB, n0, n1, n2, n3, n4, n5, n6, n7, n8, n9, n10, n11, n12, m0, j0, m1, j1, m2, j2⟩ := at_T58 HB9.out (k : Int) (by omega) (by omega)
      rw [Int.toNat_natCast] at o0 o1 o2 o3 o4 o5 o6 o7 o8 o9 o10 o11 o12 n0 n1 n2 n3 n4 n5 n6 n7 n8 n9 n10 n11 n12
      obtain ⟨x, hxe⟩ : ∃ x, x = rd_T58 a.L (k : Int) := ⟨_, rfl⟩
      obtain ⟨y, hye⟩ : ∃ y, y = rd_T58 b.L (k : Int) := ⟨_, rfl⟩
      have HX := Lib.hid (show a.L[k] = x by rw [hxe]; unfold rd_T58; rw [Int.toNat_natCast]; simp [List.getD, hla])
      have HY := Lib.hid (show b.L[k] = y by rw [hye]; unfold rd_T58; rw [Int.toNat_natCast]; simp [List.getD, hbl])
      rw [← hxe] at o0 o1 o2 o3 o4 o5 o6 o7 o8 o9 o10 o11 o12 l0 g0 l1 g1 l2 g2
      rw [← hye] at n0 n1 n2 n3 n4 n5 n6 n7 n8 n9 n10 n11 n12 m0 j0 m1 j1 m2 j2
      clear hxe hye
      subst hA
      subst hB
      have HG := Lib.hid (fun W (hb : Below w.heap.size w W) => sameSecs_any x y A0 A1 A2 B0 B1 B2 a0 a1 a2 b0 b1 b2 W l0 (Kd.C_below g0 hb) l1 (Kd.C_below g1 hb) l2 (Kd.C_below g2 hb) m0 (Kd.C_below j0 hb) m1 (Kd.C_below j1 hb) m2 (Kd.C_below j2 hb))
      clear l0 g0 l1 g1 l2 g2 m0 j0 m1 j1 m2 j2
      have r10 := blk_cell HR.out.1.1 10
      simp only [List.getElem?_toArray, List.getElem?_cons_succ, List.getElem?_cons_zero] at r10
      have hbig : XS.length ≤ 16 := by have := HR.out.2.2.1; omega
      go_upto_region 5 with (fail)
      clear r10
      obtain ⟨wd, hwd⟩ : ∃ wd, wd = wr.drew := ⟨_, rfl⟩
      have HTd := Lib.hid (show DSt w wd _ _ from by rw [hwd]; exact HR.out.1.below (below_drew1 (Below.refl _ _)))
      have HRX := Lib.hid (show Kd.R (Kd.int .i64) 3 wd w.heap.size (fun j => w.heap.size + 1 < j) _ XS from by rw [hwd]; exact Kd.R_drew HR.out.2.1)
      have HEQ := Lib.hid HR.out.2.2
      clear HR
      have p0 := (HTd.out.2.2.cell (World.block_lt_of_cell? w _ o0)).trans o0
      have q0 := (HTd.out.2.2.cell (World.block_lt_of_cell? w _ n0)).trans n0
      have p1 := (HTd.out.2.2.cell (World.block_lt_of_cell? w _ o1)).trans o1
      have q1 := (HTd.out.2.2.cell (World.block_lt_of_cell? w _ n1)).trans n1
      have p2 := (HTd.out.2.2.cell (World.block_lt_of_cell? w _ o2)).trans o2
      have q2 := (HTd.out.2.2.cell (World.block_lt_of_cell? w _ n2)).trans n2
      have p3 := (HTd.out.2.2.cell (World.block_lt_of_cell? w _ o3)).trans o3
      have q3 := (HTd.out.2.2.cell (World.block_lt_of_cell? w _ n3)).trans n3
      have p4 := (HTd.out.2.2.cell (World.block_lt_of_cell? w _ o4)).trans o4
      have q4 := (HTd.out.2.2.cell (World.block_lt_of_cell? w _ n4)).trans n4
      have p5 := (HTd.out.2.2.cell (World.block_lt_of_cell? w _ o5)).trans o5
      have q5 := (HTd.out.2.2.cell (World.block_lt_of_cell? w _ n5)).trans n5
      have p6 := (HTd.out.2.2.cell (World.block_lt_of_cell? w _ o6)).trans o6
      have q6 := (HTd.out.2.2.cell (World.block_lt_of_cell? w _ n6)).trans n6
      have p7 := (HTd.out.2.2.cell (World.block_lt_of_cell? w _ o7)).trans o7
      have q7 := (HTd.out.2.2.cell (World.block_lt_of_cell? w _ n7)).trans n7
      have p8 := (HTd.out.2.2.cell (World.block_lt_of_cell? w _ o8)).trans o8
      have q8 := (HTd.out.2.2.cell (World.block_lt_of_cell? w _ n8)).trans n8
      have p9 := (HTd.out.2.2.cell (World.block_lt_of_cell? w _ o9)).trans o9
      have q9 := (HTd.out.2.2.cell (World.block_lt_of_cell? w _ n9)).trans n9
      have p10 := (HTd.out.2.2.cell (World.block_lt_of_cell? w _ o10)).trans o10
      have q10 := (HTd.out.2.2.cell (World.block_lt_of_cell? w _ n10)).trans n10
      have p11 := (HTd.out.2.2.cell (World.block_lt_of_cell? w _ o11)).trans o11
      have q11 := (HTd.out.2.2.cell (World.block_lt_of_cell? w _ n11)).trans n11
      have p12 := (HTd.out.2.2.cell (World.block_lt_of_cell? w _ o12)).trans o12
      have q12 := (HTd.out.2.2.cell (World.block_lt_of_cell? w _ n12)).trans n12
      rw [hwd] at HTd HRX p0 q0 p1 q1 p2 q2 p3 q3 p4 q4 p5 q5 p6 q6 p7 q7 p8 q8 p9 q9 p10 q10 p11 q11 p12 q12
      refine start_ (n := 11) (S := fun w' => w'.cell? ⟨w.heap.size, 10, none⟩ = some (.slice (some ad) a.L.length c9) ∧ w'.cell? ⟨w.heap.size + 1, 10, none⟩ = some (.slice (some bd) b.L.length d9) ∧ w'.cell? (ad.add (k * 13)) = some (.string x.f0) ∧ w'.cell? ⟨(ad.add (k * 13)).block, (ad.add (k * 13)).off + 1, none⟩ = some (.int .u64 x.f1) ∧ w'.cell? ⟨(ad.add (k * 13)).block, (ad.add (k * 13)).off + 2, none⟩ = some (.int .u64 x.f2) ∧ w'.cell? ⟨(ad.add (k * 13)).block, (ad.add (k * 13)).off + 3, none⟩ = some (.int .u64 x.f3) ∧ w'.cell? ⟨(ad.add (k * 13)).block, (ad.add (k * 13)).off + 4, none⟩ = some (.int .u64 x.f4) ∧ w'.cell? ⟨(ad.add (k * 13)).block, (ad.add (k * 13)).off + 5, none⟩ = some (.int .u64 x.f5) ∧ w'.cell? ⟨(ad.add (k * 13)).block, (ad.add (k * 13)).off + 6, none⟩ = some (.int .u64 x.f6) ∧ w'.cell? ⟨(ad.add (k * 13)).block, (ad.add (k * 13)).off + 7, none⟩ = some (.int .u64 x.f7) ∧ w'.cell? ⟨(ad.add (k * 13)).block, (ad.add (k * 13)).off + 8, none⟩ = some (.int .u64 x.f8) ∧ w'.cell? ⟨(ad.add (k * 13)).block, (ad.add (k * 13)).off + 9, none⟩ = some (.string x.f9) ∧ w'.cell? ⟨(ad.add (k * 13)).block, (ad.add (k * 13)).off + 10, none⟩ = some (.slice A0 x.f10.length a0) ∧ w'.cell? ⟨(ad.add (k * 13)).block, (ad.add (k * 13)).off + 11, none⟩ = some (.slice A1 x.f11.length a1) ∧ w'.cell? ⟨(ad.add (k * 13)).block, (ad.add (k * 13)).off + 12, none⟩ = some (.slice A2 x.f12.length a2) ∧ w'.cell? (bd.add (k * 13)) = some (.string y.f0) ∧ w'.cell? ⟨(bd.add (k * 13)).block, (bd.add (k * 13)).off + 1, none⟩ = some (.int .u64 y.f1) ∧ w'.cell? ⟨(bd.add (k * 13)).block, (bd.add (k * 13)).off + 2, none⟩ = some (.int .u64 y.f2) ∧ w'.cell? ⟨(bd.add (k * 13)).block, (bd.add (k * 13)).off + 3, none⟩ = some (.int .u64 y.f3) ∧ w'.cell? ⟨(bd.add (k * 13)).block, (bd.add (k * 13)).off + 4, none⟩ = some (.int .u64 y.f4) ∧ w'.cell? ⟨(bd.add (k * 13)).block, (bd.add (k * 13)).off + 5, none⟩ = some (.int .u64 y.f5) ∧ w'.cell? ⟨(bd.add (k * 13)).block, (bd.add (k * 13)).off + 6, none⟩ = some (.int .u64 y.f6) ∧ w'.cell? ⟨(bd.add (k * 13)).block, (bd.add (k * 13)).off + 7, none⟩ = some (.int .u64 y.f7) ∧ w'.cell? ⟨(bd.add (k * 13)).block, (bd.add (k * 13)).off + 8, none⟩ = some (.int .u64 y.f8) ∧ w'.cell? ⟨(bd.add (k * 13)).block, (bd.add (k * 13)).off + 9, none⟩ = some (.string y.f9) ∧ w'.cell? ⟨(bd.add (k * 13)).block, (bd.add (k * 13)).off + 10, none⟩ = some (.slice B0 y.f10.length b0) ∧ w'.cell? ⟨(bd.add (k * 13)).block, (bd.add (k * 13)).off + 11, none⟩ = some (.slice B1 y.f11.length b1) ∧ w'.cell? ⟨(bd.add (k * 13)).block, (bd.add (k * 13)).off + 12, none⟩ = some (.slice B2 y.f12.length b2)) (ds := []) #[false, false, false, false, false, false, false, false, false, false, false] (by kernel_rfl) (by rfl) (by rfl) ⟨blk_cell HTd.out.1 10, blk_cell HTd.out.2.1 10, p0, p1, p2, p3, p4, p5, p6, p7, p8, p9, p10, p11, p12, q0, q1, q2, q3, q4, q5, q6, q7, q8, q9, q10, q11, q12⟩ (fun hHeld => ?_)
      rw [← hwd] at HTd HRX p0 q0 p1 q1 p2 q2 p3 q3 p4 q4 p5 q5 p6 q6 p7 q7 p8 q8 p9 q9 p10 q10 p11 q11 p12 q12 hHeld ⊢
      clear hwd
      refine pure_ (i := 0) (N := some 17) (v := ?_) (a' := ?_) #[true, false, false, false, false, false, false, false, false, false, false] rfl rfl (by kernel_rfl) (fun _ _ _ h => h) (Or.inl ⟨by rfl, ?_⟩) ?_ ?_
      rotate_left
      · intro w'
        go_simp
        with_reducible rfl
      rotate_left
      · simp only [Act.put, List.setIfInBounds_toArray, List.set_cons_zero, List.set_cons_succ]
        rfl
      refine pure_ (i := 2) (N := some 19) (v := ?_) (a' := ?_) #[true, false, true, false, false, false, false, false, false, false, false] rfl rfl (by kernel_rfl) (fun _ _ _ h => h) (Or.inl ⟨by rfl, ?_⟩) ?_ ?_
      rotate_left
      · intro w'
        go_simp
        with_reducible rfl
      rotate_left
      · simp only [Act.put, List.setIfInBounds_toArray, List.set_cons_zero, List.set_cons_succ]
        rfl
      refine pure_ (i := 5) (N := some 22) (v := ?_) (a' := ?_) #[true, false, true, false, false, true, false, false, false, false, false] rfl rfl (by kernel_rfl) (fun _ _ _ h => h) (Or.inl ⟨by rfl, ?_⟩) ?_ ?_
      rotate_left
      · intro w'
        go_simp
        with_reducible rfl
      rotate_left
      · simp only [Act.put, List.setIfInBounds_toArray, List.set_cons_zero, List.set_cons_succ]
        rfl
      refine pure_ (i := 7) (N := some 24) (v := ?_) (a' := ?_) #[true, false, true, false, false, true, false, true, false, false, false] rfl rfl (by kernel_rfl) (fun _ _ _ h => h) (Or.inl ⟨by rfl, ?_⟩) ?_ ?_
      rotate_left
      · intro w'
        go_simp
        with_reducible rfl
      rotate_left
      · simp only [Act.put, List.setIfInBounds_toArray, List.set_cons_zero, List.set_cons_succ]
        rfl
      refine take_ (i := 1) (N := some 18) (v := ?_) (a' := ?_) #[true, true, true, false, false, true, false, true, false, false, false] rfl rfl (by kernel_rfl) (fun _ _ _ h => h) (Or.inl ⟨by rfl, ?_⟩) hHeld ?_ ?_
      rotate_left
      · rintro w' ⟨s0, s1, s2, s3, s4, s5, s6, s7, s8, s9, s10, s11, s12, s13, s14, s15, s16, s17, s18, s19, s20, s21, s22, s23, s24, s25, s26, s27⟩
        go_simp
        with_reducible rfl
      rotate_left
      · simp only [Act.put, List.setIfInBounds_toArray, List.set_cons_zero, List.set_cons_succ]
        rfl
      refine take_ (i := 6) (N := some 23) (v := ?_) (a' := ?_) #[true, true, true, false, false, true, true, true, false, false, false] rfl rfl (by kernel_rfl) (fun _ _ _ h => h) (Or.inl ⟨by rfl, ?_⟩) hHeld ?_ ?_
      rotate_left
      · rintro w' ⟨s0, s1, s2, s3, s4, s5, s6, s7, s8, s9, s10, s11, s12, s13, s14, s15, s16, s17, s18, s19, s20, s21, s22, s23, s24, s25, s26, s27⟩
        go_simp
        with_reducible rfl
      rotate_left
      · simp only [Act.put, List.setIfInBounds_toArray, List.set_cons_zero, List.set_cons_succ]
        rfl
      refine pure_ (i := 3) (N := some 20) (v := ?_) (a' := ?_) #[true, true, true, true, false, true, true, true, false, false, false] rfl rfl (by kernel_rfl) (fun _ _ _ h => h) (Or.inl ⟨by rfl, ?_⟩) ?_ ?_
      rotate_left
      · intro w'
        go_simp
        with_reducible rfl
      rotate_left
      · simp only [Act.put, List.setIfInBounds_toArray, List.set_cons_zero, List.set_cons_succ]
        rfl
      refine pure_ (i := 8) (N := some 25) (v := ?_) (a' := ?_) #[true, true, true, true, false, true, true, true, true, false, false] rfl rfl (by kernel_rfl) (fun _ _ _ h => h) (Or.inl ⟨by rfl, ?_⟩) ?_ ?_
      rotate_left
      · intro w'
        go_simp
        with_reducible rfl
      rotate_left
      · simp only [Act.put, List.setIfInBounds_toArray, List.set_cons_zero, List.set_cons_succ]
        rfl
      refine take_ (i := 4) (N := some 21) (v := ?_) (a' := ?_) #[true, true, true, true, true, true, true, true, true, false, false] rfl rfl (by kernel_rfl) (fun _ _ _ h => h) (Or.inl ⟨by rfl, ?_⟩) hHeld ?_ ?_
      rotate_left
      · rintro w' ⟨s0, s1, s2, s3, s4, s5, s6, s7, s8, s9, s10, s11, s12, s13, s14, s15, s16, s17, s18, s19, s20, s21, s22, s23, s24, s25, s26, s27⟩
        go_simp
        with_reducible rfl
      rotate_left
      · simp only [Act.put, List.setIfInBounds_toArray, List.set_cons_zero, List.set_cons_succ]
        rfl
      refine take_ (i := 9) (N := some 26) (v := ?_) (a' := ?_) #[true, true, true, true, true, true, true, true, true, true, false] rfl rfl (by kernel_rfl) (fun _ _ _ h => h) (Or.inl ⟨by rfl, ?_⟩) hHeld ?_ ?_
      rotate_left
      · rintro w' ⟨s0, s1, s2, s3, s4, s5, s6, s7, s8, s9, s10, s11, s12, s13, s14, s15, s16, s17, s18, s19, s20, s21, s22, s23, s24, s25, s26, s27⟩
        go_simp
        with_reducible rfl
      rotate_left
      · simp only [Act.put, List.setIfInBounds_toArray, List.set_cons_zero, List.set_cons_succ]
        rfl
      refine one_ (i := 10) (N := some 27) #[true, true, true, true, true, true, true, true, true, true, true] rfl rfl (by kernel_rfl) (by decide) (fun K hK => ?_)
      refine goes_ Tryd.func15 (by kernel_rfl) rfl #[.agg #[.string x.f0, .int .u64 x.f1, .int .u64 x.f2, .int .u64 x.f3, .int .u64 x.f4, .int .u64 x.f5, .int .u64 x.f6, .int .u64 x.f7, .int .u64 x.f8, .string x.f9, .slice A0 x.f10.length a0, .slice A1 x.f11.length a1, .slice A2 x.f12.length a2], .agg #[.string y.f0, .int .u64 y.f1, .int .u64 y.f2, .int .u64 y.f3, .int .u64 y.f4, .int .u64 y.f5, .int .u64 y.f6, .int .u64 y.f7, .int .u64 y.f8, .string y.f9, .slice B0 y.f10.length b0, .slice B1 y.f11.length b1, .slice B2 y.f12.length b2]] (by rfl) rfl rfl (by first | rfl | (simp only [List.map_toArray, List.map_cons, List.map_nil]; rfl)) ?_
      refine (HG.out wd HTd.out.2.2).mono ?_
      rintro e w1 ⟨rfl, hb1⟩
      refine ⟨_, rfl, ?_⟩
      have HT1 := Lib.hid (HTd.out.below (hb1.mono (Nat.le_refl _)))
      have HR1 := Lib.hid (Kd.R_below HRX.out hb1)
      refine hK.out _ _ ⟨blk_cell HT1.out.1 10, blk_cell HT1.out.2.1 10, (hb1.cell (World.block_lt_of_cell? wd _ p0)).trans p0, (hb1.cell (World.block_lt_of_cell? wd _ p1)).trans p1, (hb1.cell (World.block_lt_of_cell? wd _ p2)).trans p2, (hb1.cell (World.block_lt_of_cell? wd _ p3)).trans p3, (hb1.cell (World.block_lt_of_cell? wd _ p4)).trans p4, (hb1.cell (World.block_lt_of_cell? wd _ p5)).trans p5, (hb1.cell (World.block_lt_of_cell? wd _ p6)).trans p6, (hb1.cell (World.block_lt_of_cell? wd _ p7)).trans p7, (hb1.cell (World.block_lt_of_cell? wd _ p8)).trans p8, (hb1.cell (World.block_lt_of_cell? wd _ p9)).trans p9, (hb1.cell (World.block_lt_of_cell? wd _ p10)).trans p10, (hb1.cell (World.block_lt_of_cell? wd _ p11)).trans p11, (hb1.cell (World.block_lt_of_cell? wd _ p12)).trans p12, (hb1.cell (World.block_lt_of_cell? wd _ q0)).trans q0, (hb1.cell (World.block_lt_of_cell? wd _ q1)).trans q1, (hb1.cell (World.block_lt_of_cell? wd _ q2)).trans q2, (hb1.cell (World.block_lt_of_cell? wd _ q3)).trans q3, (hb1.cell (World.block_lt_of_cell? wd _ q4)).trans q4, (hb1.cell (World.block_lt_of_cell? wd _ q5)).trans q5, (hb1.cell (World.block_lt_of_cell? wd _ q6)).trans q6, (hb1.cell (World.block_lt_of_cell? wd _ q7)).trans q7, (hb1.cell (World.block_lt_of_cell? wd _ q8)).trans q8, (hb1.cell (World.block_lt_of_cell? wd _ q9)).trans q9, (hb1.cell (World.block_lt_of_cell? wd _ q10)).trans q10, (hb1.cell (World.block_lt_of_cell? wd _ q11)).trans q11, (hb1.cell (World.block_lt_of_cell? wd _ q12)).trans q12⟩ (fun hHeld => ?_)
      clear hK K
      obtain ⟨nb, hnb⟩ : ∃ nb : Bool, eqC x y = nb := ⟨_, rfl⟩
      rw [hnb]
      refine norm_ (a' := ?_) ?_ ?_
      rotate_left
      · show Act.put _ (some 27) _ = _
        simp only [Act.put, List.setIfInBounds_toArray, List.set_cons_zero, List.set_cons_succ]
        rfl
      refine done_ (by kernel_rfl) ?_
      clear hb1 p0 q0 o0 n0 p1 q1 o1 n1 p2 q2 o2 n2 p3 q3 o3 n3 p4 q4 o4 n4 p5 q5 o5 n5 p6 q6 o6 n6 p7 q7 o7 n7 p8 q8 o8 n8 p9 q9 o9 n9 p10 q10 o10 n10 p11 q11 o11 n11 p12 q12 o12 n12 hHeld
      have HST := Lib.hid (show sharedR k (a.L.drop k) (b.L.drop k) = (if nb = true then [(k : Int)] else []) ++ sharedR (k + 1) (a.L.drop (k + 1)) (b.L.drop (k + 1)) by
        rw [List.drop_eq_getElem_cons hla, List.drop_eq_getElem_cons hbl, HX.out, HY.out, sharedR_cons, hnb])
      have HNB := Lib.hid hnb
      clear hnb HTd HRX HG HX HY
      cases nb
      · go_wp2
        go_roundw
        case rel => exact ⟨k + 1, XS, by omega, by go_num, Lib.hid ⟨HT1.out, HR1.out, by have := HEQ.out.1; omega, by rw [HEQ.out.2, HST.out]; simp⟩⟩
        case measure => simp [intOf]; omega
      · go_wp2_with (first | (at_builtin; refine Kd.R_append (Kd.int .i64) (w0 := w) w.heap.size rfl (.tmp 28) (.tmp 30) 68 3 _ _ rfl Tryd.underlying68 info3 rfl (by decide) (by omega) (.slice AX XS.length cX) XS (k : Int) _ (fun j => w.heap.size + 1 < j) (fun _ => False) rfl rfl rfl (fun _ h => h.elim) (fun j hj => by have h1 := blk_lt HT1.out.2.1; omega) HR1.out HT1.out.2.2 HT1.out.2.2.size (by omega) ?_))
        intro v7 w7 hR7 hB7 hG7 hat7
        obtain ⟨A7, c7, rfl⟩ := Kd.R_slice hR7
        have HT7 := Lib.hid (HT1.out.grown hG7 hB7 (fun j hj => HR1.out.1 j hj))
        have HR7 := Lib.hid hR7
        clear hR7 hB7 hG7 hat7 HT1 HR1
        go_wp2
        go_roundw
        case rel => exact ⟨k + 1, XS ++ [(k : Int)], by omega, by go_num, Lib.hid ⟨HT7.out, HR7.out, by have := HEQ.out.1; simp; omega, by rw [HEQ.out.2, HST.out, List.append_assoc]; simp⟩⟩
        case measure => simp [intOf]; omega
    · have hnil : a.L.drop k = [] ∨ b.L.drop k = [] := by
        rcases Nat.le_total a.L.length b.L.length with h | h
        · left; exact List.drop_eq_nil_of_le (by have := HMM.out; omega)
        · right; exact List.drop_eq_nil_of_le (by have := HMM.out; omega)
      have HF := Lib.hid (show sharedR 0 a.L b.L = XS by rw [HR.out.2.2.2, sharedR_nil _ _ _ hnil, List.append_nil])
      go_wp2
      go_ret
      rw [HF.out]
      exact ⟨_, rfl, Kd.R_mono HR.out.2.1 (fun _ _ => trivial), HR.out.1.2.2⟩)
end Go.Proofs.YthphhogljniofaaDoor

/- Contracts over this translation, two models: lone. -/
namespace Go.Proofs.YthphhogljniofaaDoor
set_option linter.unusedVariables false
set_option linter.unusedSimpArgs false
open Go.RowKit Go.Proofs.YthphhogljniofaaDoorX.Kd Go.Proofs.YthphhogljniofaaDoorW.PrintWords Go.Proofs.YthphhogljniofaaDoorW.PrintLast Go.Proofs.YthphhogljniofaaDoorW.PrintMore

theorem str_at {w : World} {A : Option Addr} {xs : List ByteArray} (h : Kd.C Kd.string w A xs.length xs) (h0 : 0 < xs.length) : ∃ ad, A = some ad ∧ ∀ j (hj : j < xs.length), w.cell? (ad.add j) = some (.string xs[j]) := by
  obtain ⟨ad, c, hA, _⟩ := Kd.C_get h ⟨#[]⟩ 0 (by omega) (by omega)
  refine ⟨ad, hA, fun j hj => ?_⟩
  obtain ⟨ad2, c, hA2, hc, hK, hcl⟩ := Kd.C_get h ⟨#[]⟩ (j : Int) (by omega) (by omega)
  rw [hA] at hA2
  injection hA2 with hA2
  subst hA2
  have h1 := hcl 0 (.string xs[j]) (by
    have hK : c = [Value.string (xs.getD j ⟨#[]⟩)] := by rw [Int.toNat_natCast] at hK; exact hK
    rw [hK]
    simp [List.getD, hj])
  rw [Int.toNat_natCast] at h1
  have e : ad.add (j * (Kd.string).sz + 0) = ad.add j := by show ad.add (j * 1 + 0) = _; rw [Nat.mul_one, Nat.add_zero]
  rwa [e] at h1
set_option maxRecDepth 100000 in
set_option maxHeartbeats 32000000 in
theorem lone_any (a b : MdD) (ha : a.L.length ≤ 16) (A9 A10 B9 B10 : Option Addr) (c9 c10 d9 d10 : Nat) (w : World) (hA9 : Kd.C k58 w A9 a.L.length a.L) (hB9 : Kd.C k58 w B9 b.L.length b.L) (l : List ByteArray) (hl : l.length ≤ 16) (AL : Option Addr) (cl : Nat) (hL : Kd.C Kd.string w AL l.length l)
    (hin : ∀ s ∈ l, (findF s 0 a.L).isSome = true ∧ (findF s 0 b.L).isSome = false) (hlt0 : ∀ i (h : i + 1 < l.length), Op.bytesLess (l[i]'(by omega)).toList l[i + 1].toList = true)
    (hall : ∀ k (h : k < a.L.length), 0 < k → (findF a.L[k].f0 0 b.L).isSome = false → l.any (fun s => s.toList == a.L[k].f0.toList) = true) :
    Calls Tryd.prog 19 #[.agg #[.bool a.big, .bool a.wide, .int .u8 a.abi, .int .u8 a.ver, .string a.pad, .int .u64 a.ty, .int .u64 a.mc, .int .u64 a.en, .int .u64 a.fg, .int .u64 a.nm, .slice A9 a.L.length c9, .slice A10 a.D.length c10], .agg #[.bool b.big, .bool b.wide, .int .u8 b.abi, .int .u8 b.ver, .string b.pad, .int .u64 b.ty, .int .u64 b.mc, .int .u64 b.en, .int .u64 b.fg, .int .u64 b.nm, .slice B9 b.L.length d9, .slice B10 b.D.length d10], .slice AL l.length cl] w fun e w' => e = .returned (.bool true) ∧ Below w.heap.size w w' := by
  have HA9 := Lib.hid hA9
  have HL := Lib.hid hL
  have HIN := Lib.hid hin
  have HLT := Lib.hid hlt0
  have HALL := Lib.hid hall
  have HFA := Lib.hid (fun W (hb : Below w.heap.size w W) n => find_any a.big a.wide a.abi a.ver a.pad a.ty a.mc a.en a.fg a.nm a.L a.D n A9 A10 c9 c10 W (Kd.C_below hA9 hb))
  have HFB := Lib.hid (fun W (hb : Below w.heap.size w W) n => find_any b.big b.wide b.abi b.ver b.pad b.ty b.mc b.en b.fg b.nm b.L b.D n B9 B10 d9 d10 W (Kd.C_below hB9 hb))
  clear hA9 hB9 hL hin hlt0 hall
  go_enter Tryd.func19, Tryd.ntmps19
  go_upto_region 1 with (fail)
  obtain ⟨wA, hwA⟩ : ∃ wA, wA = (w.alloc (.cells #[.bool a.big, .bool a.wide, .int .u8 a.abi, .int .u8 a.ver, .string a.pad, .int .u64 a.ty, .int .u64 a.mc, .int .u64 a.en, .int .u64 a.fg, .int .u64 a.nm, .slice A9 a.L.length c9, .slice A10 a.D.length c10] 39)).alloc (.cells #[.bool b.big, .bool b.wide, .int .u8 b.abi, .int .u8 b.ver, .string b.pad, .int .u64 b.ty, .int .u64 b.mc, .int .u64 b.en, .int .u64 b.fg, .int .u64 b.nm, .slice B9 b.L.length d9, .slice B10 b.D.length d10] 39) := ⟨_, rfl⟩
  have HT := Lib.hid (show DSt w wA #[.bool a.big, .bool a.wide, .int .u8 a.abi, .int .u8 a.ver, .string a.pad, .int .u64 a.ty, .int .u64 a.mc, .int .u64 a.en, .int .u64 a.fg, .int .u64 a.nm, .slice A9 a.L.length c9, .slice A10 a.D.length c10] #[.bool b.big, .bool b.wide, .int .u8 b.abi, .int .u8 b.ver, .string b.pad, .int .u64 b.ty, .int .u64 b.mc, .int .u64 b.en, .int .u64 b.fg, .int .u64 b.nm, .slice B9 b.L.length d9, .slice B10 b.D.length d10] from by
    have h1 := blk_new (w.alloc (.cells #[.bool a.big, .bool a.wide, .int .u8 a.abi, .int .u8 a.ver, .string a.pad, .int .u64 a.ty, .int .u64 a.mc, .int .u64 a.en, .int .u64 a.fg, .int .u64 a.nm, .slice A9 a.L.length c9, .slice A10 a.D.length c10] 39)) (.cells #[.bool b.big, .bool b.wide, .int .u8 b.abi, .int .u8 b.ver, .string b.pad, .int .u64 b.ty, .int .u64 b.mc, .int .u64 b.en, .int .u64 b.fg, .int .u64 b.nm, .slice B9 b.L.length d9, .slice B10 b.D.length d10] 39)
    rw [World.size_alloc] at h1
    rw [hwA]
    exact ⟨blk_alloc (blk_new w _) _, h1, ((Below.refl _ _).alloc (Nat.le_refl _) _).alloc (by simp) _⟩)
  rw [← hwA]
  clear hwA
  go_wp2
  go_loopw [7] (fun i wr => ∃ k : Nat, k ≤ l.length ∧ i = .int .i64 k ∧ Hid (DSt w wr #[.bool a.big, .bool a.wide, .int .u8 a.abi, .int .u8 a.ver, .string a.pad, .int .u64 a.ty, .int .u64 a.mc, .int .u64 a.en, .int .u64 a.fg, .int .u64 a.nm, .slice A9 a.L.length c9, .slice A10 a.D.length c10] #[.bool b.big, .bool b.wide, .int .u8 b.abi, .int .u8 b.ver, .string b.pad, .int .u64 b.ty, .int .u64 b.mc, .int .u64 b.en, .int .u64 b.fg, .int .u64 b.nm, .slice B9 b.L.length d9, .slice B10 b.D.length d10])) (fun i _ => l.length - (intOf i).toNat)
  case atStart => exact ⟨0, Nat.zero_le _, rfl, HT⟩
  case round =>
    obtain ⟨k, hk1, rfl, HR⟩ := hrel
    clear HT
    by_cases hlt : k < l.length
    · obtain ⟨ad, hA, hcl⟩ := str_at HL.out (by omega)
      subst hA
      have o0 := hcl k hlt
      have HCL := Lib.hid hcl
      clear hcl
      obtain ⟨s, hs⟩ : ∃ s, l[k] = s := ⟨_, rfl⟩
      rw [hs] at o0
      have HS := Lib.hid hs
      have HIN2 := Lib.hid (HIN.out s (by rw [← hs]; exact List.getElem_mem hlt))
      clear hs
      obtain ⟨fi, hfi⟩ : ∃ fi : Nat, (findF s 0 a.L).getD 0 = fi := ⟨_, rfl⟩
      obtain ⟨fj, hfj⟩ : ∃ fj : Nat, (findF s 0 b.L).getD 0 = fj := ⟨_, rfl⟩
      have HFA2 := Lib.hid (fun W hb => HFA.out W hb s)
      have HFB2 := Lib.hid (fun W hb => HFB.out W hb s)
      rw [HIN2.out.1, hfi] at HFA2
      rw [HIN2.out.2, hfj] at HFB2
      clear hfi hfj HIN2
      go_upto_region 4 with (fail)
      obtain ⟨wd, hwd⟩ : ∃ wd, wd = wr.drew := ⟨_, rfl⟩
      have HTd := Lib.hid (show DSt w wd _ _ from by rw [hwd]; exact HR.out.below (below_drew1 (Below.refl _ _)))
      clear HR
      have p0 := blk_cell HTd.out.1 0
      have p1 := blk_cell HTd.out.1 1
      have p2 := blk_cell HTd.out.1 2
      have p3 := blk_cell HTd.out.1 3
      have p4 := blk_cell HTd.out.1 4
      have p5 := blk_cell HTd.out.1 5
      have p6 := blk_cell HTd.out.1 6
      have p7 := blk_cell HTd.out.1 7
      have p8 := blk_cell HTd.out.1 8
      have p9 := blk_cell HTd.out.1 9
      have p10 := blk_cell HTd.out.1 10
      have p11 := blk_cell HTd.out.1 11
      simp only [List.getElem?_toArray, List.getElem?_cons_succ, List.getElem?_cons_zero] at p0 p1 p2 p3 p4 p5 p6 p7 p8 p9 p10 p11
      have qL := (HTd.out.2.2.cell (World.block_lt_of_cell? w _ o0)).trans o0
      rw [hwd] at HTd p0 p1 p2 p3 p4 p5 p6 p7 p8 p9 p10 p11 qL
      refine start_ (n := 11) (S := fun w' => w'.cell? ⟨w.heap.size, 0, none⟩ = some (.bool a.big) ∧ w'.cell? ⟨w.heap.size, 1, none⟩ = some (.bool a.wide) ∧ w'.cell? ⟨w.heap.size, 2, none⟩ = some (.int .u8 a.abi) ∧ w'.cell? ⟨w.heap.size, 3, none⟩ = some (.int .u8 a.ver) ∧ w'.cell? ⟨w.heap.size, 4, none⟩ = some (.string a.pad) ∧ w'.cell? ⟨w.heap.size, 5, none⟩ = some (.int .u64 a.ty) ∧ w'.cell? ⟨w.heap.size, 6, none⟩ = some (.int .u64 a.mc) ∧ w'.cell? ⟨w.heap.size, 7, none⟩ = some (.int .u64 a.en) ∧ w'.cell? ⟨w.heap.size, 8, none⟩ = some (.int .u64 a.fg) ∧ w'.cell? ⟨w.heap.size, 9, none⟩ = some (.int .u64 a.nm) ∧ w'.cell? ⟨w.heap.size, 10, none⟩ = some (.slice A9 a.L.length c9) ∧ w'.cell? ⟨w.heap.size, 11, none⟩ = some (.slice A10 a.D.length c10) ∧ w'.cell? (ad.add k) = some (.string s)) (ds := []) #[false, false, false, false, false, false, false, false, false, false, false] (by kernel_rfl) (by rfl) (by rfl) ⟨p0, p1, p2, p3, p4, p5, p6, p7, p8, p9, p10, p11, qL⟩ (fun hHeld => ?_)
      rw [← hwd] at HTd p0 p1 p2 p3 p4 p5 p6 p7 p8 p9 p10 p11 qL hHeld ⊢
      clear hwd
      refine take_ (i := 0) (N := some 24) (v := ?_) (a' := ?_) #[true, false, false, false, false, false, false, false, false, false, false] rfl rfl (by kernel_rfl) (fun _ _ _ h => h) (Or.inl ⟨by rfl, ?_⟩) hHeld ?_ ?_
      rotate_left
      · rintro w' ⟨s0, s1, s2, s3, s4, s5, s6, s7, s8, s9, s10, s11, s12⟩
        go_simp
        with_reducible rfl
      rotate_left
      · simp only [Act.put, List.setIfInBounds_toArray, List.set_cons_zero, List.set_cons_succ]
        rfl
      refine pure_ (i := 1) (N := some 25) (v := ?_) (a' := ?_) #[true, true, false, false, false, false, false, false, false, false, false] rfl rfl (by kernel_rfl) (fun _ _ _ h => h) (Or.inl ⟨by rfl, ?_⟩) ?_ ?_
      rotate_left
      · intro w'
        go_simp
        with_reducible rfl
      rotate_left
      · simp only [Act.put, List.setIfInBounds_toArray, List.set_cons_zero, List.set_cons_succ]
        rfl
      refine pure_ (i := 2) (N := some 26) (v := ?_) (a' := ?_) #[true, true, true, false, false, false, false, false, false, false, false] rfl rfl (by kernel_rfl) (fun _ _ _ h => h) (Or.inl ⟨by rfl, ?_⟩) ?_ ?_
      rotate_left
      · intro w'
        go_simp
        with_reducible rfl
      rotate_left
      · simp only [Act.put, List.setIfInBounds_toArray, List.set_cons_zero, List.set_cons_succ]
        rfl
      refine pure_ (i := 3) (N := some 27) (v := ?_) (a' := ?_) #[true, true, true, true, false, false, false, false, false, false, false] rfl rfl (by kernel_rfl) (fun _ _ _ h => h) (Or.inl ⟨by rfl, ?_⟩) ?_ ?_
      rotate_left
      · intro w'
        go_simp
        with_reducible rfl
      rotate_left
      · simp only [Act.put, List.setIfInBounds_toArray, List.set_cons_zero, List.set_cons_succ]
        rfl
      refine take_ (i := 4) (N := some 28) (v := ?_) (a' := ?_) #[true, true, true, true, true, false, false, false, false, false, false] rfl rfl (by kernel_rfl) (fun _ _ _ h => h) (Or.inl ⟨by rfl, ?_⟩) hHeld ?_ ?_
      rotate_left
      · rintro w' ⟨s0, s1, s2, s3, s4, s5, s6, s7, s8, s9, s10, s11, s12⟩
        go_simp
        with_reducible rfl
      rotate_left
      · simp only [Act.put, List.setIfInBounds_toArray, List.set_cons_zero, List.set_cons_succ]
        rfl
      refine one_ (i := 5) (N := some 29) #[true, true, true, true, true, true, false, false, false, false, false] rfl rfl (by kernel_rfl) (by decide) (fun K hK => ?_)
      refine goes_ Tryd.func32 (by kernel_rfl) rfl #[.agg #[.bool a.big, .bool a.wide, .int .u8 a.abi, .int .u8 a.ver, .string a.pad, .int .u64 a.ty, .int .u64 a.mc, .int .u64 a.en, .int .u64 a.fg, .int .u64 a.nm, .slice A9 a.L.length c9, .slice A10 a.D.length c10], .string s] (by rfl) rfl rfl (by first | rfl | (simp only [List.map_toArray, List.map_cons, List.map_nil]; rfl)) ?_
      refine (HFA2.out wd HTd.out.2.2).mono ?_
      rintro e w1 ⟨rfl, hb1⟩
      refine ⟨_, rfl, ?_⟩
      have HT1 := Lib.hid (HTd.out.below hb1)
      refine hK.out _ _ ⟨(hb1.cell (World.block_lt_of_cell? wd _ p0)).trans p0, (hb1.cell (World.block_lt_of_cell? wd _ p1)).trans p1, (hb1.cell (World.block_lt_of_cell? wd _ p2)).trans p2, (hb1.cell (World.block_lt_of_cell? wd _ p3)).trans p3, (hb1.cell (World.block_lt_of_cell? wd _ p4)).trans p4, (hb1.cell (World.block_lt_of_cell? wd _ p5)).trans p5, (hb1.cell (World.block_lt_of_cell? wd _ p6)).trans p6, (hb1.cell (World.block_lt_of_cell? wd _ p7)).trans p7, (hb1.cell (World.block_lt_of_cell? wd _ p8)).trans p8, (hb1.cell (World.block_lt_of_cell? wd _ p9)).trans p9, (hb1.cell (World.block_lt_of_cell? wd _ p10)).trans p10, (hb1.cell (World.block_lt_of_cell? wd _ p11)).trans p11, (hb1.cell (World.block_lt_of_cell? wd _ qL)).trans qL⟩ (fun hHeld => ?_)
      clear hK K
      refine norm_ (a' := ?_) ?_ ?_
      rotate_left
      · show Act.put _ (some 29) _ = _
        simp only [Act.put, List.setIfInBounds_toArray, List.set_cons_zero, List.set_cons_succ]
        rfl
      refine pure_ (i := 6) (N := some 23) (v := ?_) (a' := ?_) #[true, true, true, true, true, true, true, false, false, false, false] rfl rfl (by kernel_rfl) (fun _ _ _ h => h) (Or.inl ⟨by rfl, ?_⟩) ?_ ?_
      rotate_left
      · intro w'
        go_simp
        with_reducible rfl
      rotate_left
      · simp only [Act.put, List.setIfInBounds_toArray, List.set_cons_zero, List.set_cons_succ]
        rfl
      refine pure_ (i := 7) (N := some 30) (v := ?_) (a' := ?_) #[true, true, true, true, true, true, true, true, false, false, false] rfl rfl (by kernel_rfl) (fun _ _ _ h => h) (Or.inl ⟨by rfl, ?_⟩) ?_ ?_
      rotate_left
      · intro w'
        go_simp
        with_reducible rfl
      rotate_left
      · simp only [Act.put, List.setIfInBounds_toArray, List.set_cons_zero, List.set_cons_succ]
        rfl
      refine pure_ (i := 8) (N := some 31) (v := ?_) (a' := ?_) #[true, true, true, true, true, true, true, true, true, false, false] rfl rfl (by kernel_rfl) (fun _ _ _ h => h) (Or.inl ⟨by rfl, ?_⟩) ?_ ?_
      rotate_left
      · intro w'
        go_simp
        with_reducible rfl
      rotate_left
      · simp only [Act.put, List.setIfInBounds_toArray, List.set_cons_zero, List.set_cons_succ]
        rfl
      refine pure_ (i := 9) (N := some 8) (v := ?_) (a' := ?_) #[true, true, true, true, true, true, true, true, true, true, false] rfl rfl (by kernel_rfl) (fun _ _ _ h => h) (Or.inl ⟨by rfl, ?_⟩) ?_ ?_
      rotate_left
      · intro w'
        go_simp
        with_reducible rfl
      rotate_left
      · simp only [Act.put, List.setIfInBounds_toArray, List.set_cons_zero, List.set_cons_succ]
        rfl
      refine pure_ (i := 10) (N := some 9) (v := ?_) (a' := ?_) #[true, true, true, true, true, true, true, true, true, true, true] rfl rfl (by kernel_rfl) (fun _ _ _ h => h) (Or.inl ⟨by rfl, ?_⟩) ?_ ?_
      rotate_left
      · intro w'
        go_simp
        with_reducible rfl
      rotate_left
      · simp only [Act.put, List.setIfInBounds_toArray, List.set_cons_zero, List.set_cons_succ]
        rfl
      refine done_ (by kernel_rfl) ?_
      clear hb1 hHeld HTd p0 p1 p2 p3 p4 p5 p6 p7 p8 p9 p10 p11 qL
      go_upto_region 5 with (fail)
      obtain ⟨wd, hwd⟩ : ∃ wd, wd = w1.drew := ⟨_, rfl⟩
      have HTd := Lib.hid (show DSt w wd _ _ from by rw [hwd]; exact HT1.out.below (below_drew1 (Below.refl _ _)))
      clear HT1
      have p0 := blk_cell HTd.out.2.1 0
      have p1 := blk_cell HTd.out.2.1 1
      have p2 := blk_cell HTd.out.2.1 2
      have p3 := blk_cell HTd.out.2.1 3
      have p4 := blk_cell HTd.out.2.1 4
      have p5 := blk_cell HTd.out.2.1 5
      have p6 := blk_cell HTd.out.2.1 6
      have p7 := blk_cell HTd.out.2.1 7
      have p8 := blk_cell HTd.out.2.1 8
      have p9 := blk_cell HTd.out.2.1 9
      have p10 := blk_cell HTd.out.2.1 10
      have p11 := blk_cell HTd.out.2.1 11
      simp only [List.getElem?_toArray, List.getElem?_cons_succ, List.getElem?_cons_zero] at p0 p1 p2 p3 p4 p5 p6 p7 p8 p9 p10 p11
      have qL := (HTd.out.2.2.cell (World.block_lt_of_cell? w _ o0)).trans o0
      rw [hwd] at HTd p0 p1 p2 p3 p4 p5 p6 p7 p8 p9 p10 p11 qL
      refine start_ (n := 11) (S := fun w' => w'.cell? ⟨w.heap.size + 1, 0, none⟩ = some (.bool b.big) ∧ w'.cell? ⟨w.heap.size + 1, 1, none⟩ = some (.bool b.wide) ∧ w'.cell? ⟨w.heap.size + 1, 2, none⟩ = some (.int .u8 b.abi) ∧ w'.cell? ⟨w.heap.size + 1, 3, none⟩ = some (.int .u8 b.ver) ∧ w'.cell? ⟨w.heap.size + 1, 4, none⟩ = some (.string b.pad) ∧ w'.cell? ⟨w.heap.size + 1, 5, none⟩ = some (.int .u64 b.ty) ∧ w'.cell? ⟨w.heap.size + 1, 6, none⟩ = some (.int .u64 b.mc) ∧ w'.cell? ⟨w.heap.size + 1, 7, none⟩ = some (.int .u64 b.en) ∧ w'.cell? ⟨w.heap.size + 1, 8, none⟩ = some (.int .u64 b.fg) ∧ w'.cell? ⟨w.heap.size + 1, 9, none⟩ = some (.int .u64 b.nm) ∧ w'.cell? ⟨w.heap.size + 1, 10, none⟩ = some (.slice B9 b.L.length d9) ∧ w'.cell? ⟨w.heap.size + 1, 11, none⟩ = some (.slice B10 b.D.length d10) ∧ w'.cell? (ad.add k) = some (.string s)) (ds := []) #[false, false, false, false, false, false, false, false, false, false, false] (by kernel_rfl) (by rfl) (by rfl) ⟨p0, p1, p2, p3, p4, p5, p6, p7, p8, p9, p10, p11, qL⟩ (fun hHeld => ?_)
      rw [← hwd] at HTd p0 p1 p2 p3 p4 p5 p6 p7 p8 p9 p10 p11 qL hHeld ⊢
      clear hwd
      refine take_ (i := 0) (N := some 33) (v := ?_) (a' := ?_) #[true, false, false, false, false, false, false, false, false, false, false] rfl rfl (by kernel_rfl) (fun _ _ _ h => h) (Or.inl ⟨by rfl, ?_⟩) hHeld ?_ ?_
      rotate_left
      · rintro w' ⟨s0, s1, s2, s3, s4, s5, s6, s7, s8, s9, s10, s11, s12⟩
        go_simp
        with_reducible rfl
      rotate_left
      · simp only [Act.put, List.setIfInBounds_toArray, List.set_cons_zero, List.set_cons_succ]
        rfl
      refine pure_ (i := 1) (N := some 34) (v := ?_) (a' := ?_) #[true, true, false, false, false, false, false, false, false, false, false] rfl rfl (by kernel_rfl) (fun _ _ _ h => h) (Or.inl ⟨by rfl, ?_⟩) ?_ ?_
      rotate_left
      · intro w'
        go_simp
        with_reducible rfl
      rotate_left
      · simp only [Act.put, List.setIfInBounds_toArray, List.set_cons_zero, List.set_cons_succ]
        rfl
      refine pure_ (i := 2) (N := some 35) (v := ?_) (a' := ?_) #[true, true, true, false, false, false, false, false, false, false, false] rfl rfl (by kernel_rfl) (fun _ _ _ h => h) (Or.inl ⟨by rfl, ?_⟩) ?_ ?_
      rotate_left
      · intro w'
        go_simp
        with_reducible rfl
      rotate_left
      · simp only [Act.put, List.setIfInBounds_toArray, List.set_cons_zero, List.set_cons_succ]
        rfl
      refine pure_ (i := 3) (N := some 36) (v := ?_) (a' := ?_) #[true, true, true, true, false, false, false, false, false, false, false] rfl rfl (by kernel_rfl) (fun _ _ _ h => h) (Or.inl ⟨by rfl, ?_⟩) ?_ ?_
      rotate_left
      · intro w'
        go_simp
        with_reducible rfl
      rotate_left
      · simp only [Act.put, List.setIfInBounds_toArray, List.set_cons_zero, List.set_cons_succ]
        rfl
      refine take_ (i := 4) (N := some 37) (v := ?_) (a' := ?_) #[true, true, true, true, true, false, false, false, false, false, false] rfl rfl (by kernel_rfl) (fun _ _ _ h => h) (Or.inl ⟨by rfl, ?_⟩) hHeld ?_ ?_
      rotate_left
      · rintro w' ⟨s0, s1, s2, s3, s4, s5, s6, s7, s8, s9, s10, s11, s12⟩
        go_simp
        with_reducible rfl
      rotate_left
      · simp only [Act.put, List.setIfInBounds_toArray, List.set_cons_zero, List.set_cons_succ]
        rfl
      refine one_ (i := 5) (N := some 38) #[true, true, true, true, true, true, false, false, false, false, false] rfl rfl (by kernel_rfl) (by decide) (fun K hK => ?_)
      refine goes_ Tryd.func32 (by kernel_rfl) rfl #[.agg #[.bool b.big, .bool b.wide, .int .u8 b.abi, .int .u8 b.ver, .string b.pad, .int .u64 b.ty, .int .u64 b.mc, .int .u64 b.en, .int .u64 b.fg, .int .u64 b.nm, .slice B9 b.L.length d9, .slice B10 b.D.length d10], .string s] (by rfl) rfl rfl (by first | rfl | (simp only [List.map_toArray, List.map_cons, List.map_nil]; rfl)) ?_
      refine (HFB2.out wd HTd.out.2.2).mono ?_
      rintro e w1 ⟨rfl, hb1⟩
      refine ⟨_, rfl, ?_⟩
      have HT2 := Lib.hid (HTd.out.below hb1)
      refine hK.out _ _ ⟨(hb1.cell (World.block_lt_of_cell? wd _ p0)).trans p0, (hb1.cell (World.block_lt_of_cell? wd _ p1)).trans p1, (hb1.cell (World.block_lt_of_cell? wd _ p2)).trans p2, (hb1.cell (World.block_lt_of_cell? wd _ p3)).trans p3, (hb1.cell (World.block_lt_of_cell? wd _ p4)).trans p4, (hb1.cell (World.block_lt_of_cell? wd _ p5)).trans p5, (hb1.cell (World.block_lt_of_cell? wd _ p6)).trans p6, (hb1.cell (World.block_lt_of_cell? wd _ p7)).trans p7, (hb1.cell (World.block_lt_of_cell? wd _ p8)).trans p8, (hb1.cell (World.block_lt_of_cell? wd _ p9)).trans p9, (hb1.cell (World.block_lt_of_cell? wd _ p10)).trans p10, (hb1.cell (World.block_lt_of_cell? wd _ p11)).trans p11, (hb1.cell (World.block_lt_of_cell? wd _ qL)).trans qL⟩ (fun hHeld => ?_)
      clear hK K
      refine norm_ (a' := ?_) ?_ ?_
      rotate_left
      · show Act.put _ (some 38) _ = _
        simp only [Act.put, List.setIfInBounds_toArray, List.set_cons_zero, List.set_cons_succ]
        rfl
      refine pure_ (i := 6) (N := some 32) (v := ?_) (a' := ?_) #[true, true, true, true, true, true, true, false, false, false, false] rfl rfl (by kernel_rfl) (fun _ _ _ h => h) (Or.inl ⟨by rfl, ?_⟩) ?_ ?_
      rotate_left
      · intro w'
        go_simp
        with_reducible rfl
      rotate_left
      · simp only [Act.put, List.setIfInBounds_toArray, List.set_cons_zero, List.set_cons_succ]
        rfl
      refine pure_ (i := 7) (N := some 39) (v := ?_) (a' := ?_) #[true, true, true, true, true, true, true, true, false, false, false] rfl rfl (by kernel_rfl) (fun _ _ _ h => h) (Or.inl ⟨by rfl, ?_⟩) ?_ ?_
      rotate_left
      · intro w'
        go_simp
        with_reducible rfl
      rotate_left
      · simp only [Act.put, List.setIfInBounds_toArray, List.set_cons_zero, List.set_cons_succ]
        rfl
      refine pure_ (i := 8) (N := some 40) (v := ?_) (a' := ?_) #[true, true, true, true, true, true, true, true, true, false, false] rfl rfl (by kernel_rfl) (fun _ _ _ h => h) (Or.inl ⟨by rfl, ?_⟩) ?_ ?_
      rotate_left
      · intro w'
        go_simp
        with_reducible rfl
      rotate_left
      · simp only [Act.put, List.setIfInBounds_toArray, List.set_cons_zero, List.set_cons_succ]
        rfl
      refine pure_ (i := 9) (N := some 10) (v := ?_) (a' := ?_) #[true, true, true, true, true, true, true, true, true, true, false] rfl rfl (by kernel_rfl) (fun _ _ _ h => h) (Or.inl ⟨by rfl, ?_⟩) ?_ ?_
      rotate_left
      · intro w'
        go_simp
        with_reducible rfl
      rotate_left
      · simp only [Act.put, List.setIfInBounds_toArray, List.set_cons_zero, List.set_cons_succ]
        rfl
      refine pure_ (i := 10) (N := some 11) (v := ?_) (a' := ?_) #[true, true, true, true, true, true, true, true, true, true, true] rfl rfl (by kernel_rfl) (fun _ _ _ h => h) (Or.inl ⟨by rfl, ?_⟩) ?_ ?_
      rotate_left
      · intro w'
        go_simp
        with_reducible rfl
      rotate_left
      · simp only [Act.put, List.setIfInBounds_toArray, List.set_cons_zero, List.set_cons_succ]
        rfl
      refine done_ (by kernel_rfl) ?_
      clear hb1 hHeld HTd p0 p1 p2 p3 p4 p5 p6 p7 p8 p9 p10 p11 qL
      have q1 := (HT2.out.2.2.cell (World.block_lt_of_cell? w _ o0)).trans o0
      by_cases hk0 : k = 0
      · have hk3 : ¬ ((0 : Int) < (k : Int)) := by omega
        have hk5 : ¬ (0 < k) := by omega
        have hk6 : decide (0 < k) = false := by simp; omega
        clear hk0
        have hk4 : decide ((0 : Int) < (k : Int)) = false := by simp; omega
        go_upto_region 6 with (fail)
        go_quiet (fail)
        go_wp2
        go_roundw
        case rel => exact ⟨k + 1, by omega, by go_num, Lib.hid (HT2.out.below (pw_below_drewN (Below.refl _ _) nq))⟩
        case measure => simp [intOf]; omega
      · obtain ⟨j, hj⟩ : ∃ j, k = j + 1 := ⟨k - 1, by omega⟩
        have hk3 : (0 : Int) < (k : Int) := by omega
        have hk4 : decide ((0 : Int) < (k : Int)) = true := by simp; omega
        have hk5 : 0 < k := by omega
        have hk6 : decide (0 < k) = true := by simp; omega
        have b1 : IntKind.i64.wrap ((k : Int) - 1) = (j : Int) := by rw [IntKind.wrap_i64]; omega
        have hjl : j < l.length := by omega
        obtain ⟨s2, hs2⟩ : ∃ s2, l[j] = s2 := ⟨_, rfl⟩
        have o2 := HCL.out j hjl
        rw [hs2] at o2
        have q2 := (HT2.out.2.2.cell (World.block_lt_of_cell? w _ o2)).trans o2
        have hbl : Op.bytesLess s2.toList s.toList = true := by
          subst hj
          rw [← hs2, ← HS.out]
          exact HLT.out j hlt
        clear o2 hs2
        have HJ := Lib.hid hj
        clear hj
        go_upto_region 6 with (fail)
        go_quiet (fail)
        go_wp2
        go_roundw
        case rel => exact ⟨k + 1, by omega, by go_num, Lib.hid (HT2.out.below (pw_below_drewN (Below.refl _ _) nq))⟩
        case measure => simp [intOf]; omega
    · have HT3 := Lib.hid HR.out
      clear HR
      go_wp2
      go_loopw [12] (fun i wr => ∃ k : Nat, 0 < k ∧ i = .int .i64 k ∧ Hid (DSt w wr #[.bool a.big, .bool a.wide, .int .u8 a.abi, .int .u8 a.ver, .string a.pad, .int .u64 a.ty, .int .u64 a.mc, .int .u64 a.en, .int .u64 a.fg, .int .u64 a.nm, .slice A9 a.L.length c9, .slice A10 a.D.length c10] #[.bool b.big, .bool b.wide, .int .u8 b.abi, .int .u8 b.ver, .string b.pad, .int .u64 b.ty, .int .u64 b.mc, .int .u64 b.en, .int .u64 b.fg, .int .u64 b.nm, .slice B9 b.L.length d9, .slice B10 b.D.length d10])) (fun i _ => a.L.length - (intOf i).toNat)
      case atStart => exact ⟨1, by omega, rfl, HT3⟩
      case round =>
        obtain ⟨k, hk1, rfl, HR⟩ := hrel
        clear HT3
        have r10 := blk_cell HR.out.1 10
        simp only [List.getElem?_toArray, List.getElem?_cons_succ, List.getElem?_cons_zero] at r10
        by_cases hlt : k < a.L.length
        · obtain ⟨ad, A0, a0, A1, a1, A2, a2, hA, o0, _⟩ := at_T58 HA9.out (k : Int) (by omega) (by omega)
          subst hA
          rw [Int.toNat_natCast] at o0
          obtain ⟨x, hxe⟩ : ∃ x, x = rd_T58 a.L (k : Int) := ⟨_, rfl⟩
          have HX := Lib.hid (show a.L[k] = x by rw [hxe]; unfold rd_T58; rw [Int.toNat_natCast]; simp [List.getD, hlt])
          rw [← hxe] at o0
          clear hxe
          obtain ⟨s, hs⟩ : ∃ s, x.f0 = s := ⟨_, rfl⟩
          rw [hs] at o0
          have HS := Lib.hid hs
          obtain ⟨tb, htb⟩ : ∃ tb : Bool, (findF s 0 b.L).isSome = tb := ⟨_, rfl⟩
          have HANY := Lib.hid (show tb = false → l.any (fun u => u.toList == s.toList) = true by
            intro h
            have h1 := HALL.out k hlt hk1
            rw [HX.out, hs, htb] at h1
            exact h1 h)
          clear hs
          obtain ⟨fj, hfj⟩ : ∃ fj : Nat, (findF s 0 b.L).getD 0 = fj := ⟨_, rfl⟩
          have HFB2 := Lib.hid (fun W hb => HFB.out W hb s)
          rw [htb, hfj] at HFB2
          clear htb hfj
          go_upto_region 11 with (fail)
          obtain ⟨wd, hwd⟩ : ∃ wd, wd = wr.drew := ⟨_, rfl⟩
          have HTd := Lib.hid (show DSt w wd _ _ from by rw [hwd]; exact HR.out.below (below_drew1 (Below.refl _ _)))
          clear HR
          have p0 := blk_cell HTd.out.2.1 0
          have p1 := blk_cell HTd.out.2.1 1
          have p2 := blk_cell HTd.out.2.1 2
          have p3 := blk_cell HTd.out.2.1 3
          have p4 := blk_cell HTd.out.2.1 4
          have p5 := blk_cell HTd.out.2.1 5
          have p6 := blk_cell HTd.out.2.1 6
          have p7 := blk_cell HTd.out.2.1 7
          have p8 := blk_cell HTd.out.2.1 8
          have p9 := blk_cell HTd.out.2.1 9
          have p10 := blk_cell HTd.out.2.1 10
          have p11 := blk_cell HTd.out.2.1 11
          simp only [List.getElem?_toArray, List.getElem?_cons_succ, List.getElem?_cons_zero] at p0 p1 p2 p3 p4 p5 p6 p7 p8 p9 p10 p11
          clear r10
          have pA := blk_cell HTd.out.1 10
          simp only [List.getElem?_toArray, List.getElem?_cons_succ, List.getElem?_cons_zero] at pA
          have qL := (HTd.out.2.2.cell (World.block_lt_of_cell? w _ o0)).trans o0
          rw [hwd] at HTd p0 p1 p2 p3 p4 p5 p6 p7 p8 p9 p10 p11 pA qL
          refine start_ (n := 13) (S := fun w' => w'.cell? ⟨w.heap.size + 1, 0, none⟩ = some (.bool b.big) ∧ w'.cell? ⟨w.heap.size + 1, 1, none⟩ = some (.bool b.wide) ∧ w'.cell? ⟨w.heap.size + 1, 2, none⟩ = some (.int .u8 b.abi) ∧ w'.cell? ⟨w.heap.size + 1, 3, none⟩ = some (.int .u8 b.ver) ∧ w'.cell? ⟨w.heap.size + 1, 4, none⟩ = some (.string b.pad) ∧ w'.cell? ⟨w.heap.size + 1, 5, none⟩ = some (.int .u64 b.ty) ∧ w'.cell? ⟨w.heap.size + 1, 6, none⟩ = some (.int .u64 b.mc) ∧ w'.cell? ⟨w.heap.size + 1, 7, none⟩ = some (.int .u64 b.en) ∧ w'.cell? ⟨w.heap.size + 1, 8, none⟩ = some (.int .u64 b.fg) ∧ w'.cell? ⟨w.heap.size + 1, 9, none⟩ = some (.int .u64 b.nm) ∧ w'.cell? ⟨w.heap.size + 1, 10, none⟩ = some (.slice B9 b.L.length d9) ∧ w'.cell? ⟨w.heap.size + 1, 11, none⟩ = some (.slice B10 b.D.length d10) ∧ w'.cell? ⟨w.heap.size, 10, none⟩ = some (.slice (some ad) a.L.length c9) ∧ w'.cell? (ad.add (k * 13)) = some (.string s)) (ds := []) #[false, false, false, false, false, false, false, false, false, false, false, false, false] (by kernel_rfl) (by rfl) (by rfl) ⟨p0, p1, p2, p3, p4, p5, p6, p7, p8, p9, p10, p11, pA, qL⟩ (fun hHeld => ?_)
          rw [← hwd] at HTd p0 p1 p2 p3 p4 p5 p6 p7 p8 p9 p10 p11 pA qL hHeld ⊢
          clear hwd
          refine take_ (i := 0) (N := some 70) (v := ?_) (a' := ?_) #[true, false, false, false, false, false, false, false, false, false, false, false, false] rfl rfl (by kernel_rfl) (fun _ _ _ h => h) (Or.inl ⟨by rfl, ?_⟩) hHeld ?_ ?_
          rotate_left
          · rintro w' ⟨s0, s1, s2, s3, s4, s5, s6, s7, s8, s9, s10, s11, s12, s13⟩
            go_simp
            with_reducible rfl
          rotate_left
          · simp only [Act.put, List.setIfInBounds_toArray, List.set_cons_zero, List.set_cons_succ]
            rfl
          refine pure_ (i := 1) (N := some 71) (v := ?_) (a' := ?_) #[true, true, false, false, false, false, false, false, false, false, false, false, false] rfl rfl (by kernel_rfl) (fun _ _ _ h => h) (Or.inl ⟨by rfl, ?_⟩) ?_ ?_
          rotate_left
          · intro w'
            go_simp
            with_reducible rfl
          rotate_left
          · simp only [Act.put, List.setIfInBounds_toArray, List.set_cons_zero, List.set_cons_succ]
            rfl
          refine take_ (i := 2) (N := some 72) (v := ?_) (a' := ?_) #[true, true, true, false, false, false, false, false, false, false, false, false, false] rfl rfl (by kernel_rfl) (fun _ _ _ h => h) (Or.inl ⟨by rfl, ?_⟩) hHeld ?_ ?_
          rotate_left
          · rintro w' ⟨s0, s1, s2, s3, s4, s5, s6, s7, s8, s9, s10, s11, s12, s13⟩
            go_simp
            with_reducible rfl
          rotate_left
          · simp only [Act.put, List.setIfInBounds_toArray, List.set_cons_zero, List.set_cons_succ]
            rfl
          refine pure_ (i := 3) (N := some 73) (v := ?_) (a' := ?_) #[true, true, true, true, false, false, false, false, false, false, false, false, false] rfl rfl (by kernel_rfl) (fun _ _ _ h => h) (Or.inl ⟨by rfl, ?_⟩) ?_ ?_
          rotate_left
          · intro w'
            go_simp
            with_reducible rfl
          rotate_left
          · simp only [Act.put, List.setIfInBounds_toArray, List.set_cons_zero, List.set_cons_succ]
            rfl
          refine pure_ (i := 4) (N := some 74) (v := ?_) (a' := ?_) #[true, true, true, true, true, false, false, false, false, false, false, false, false] rfl rfl (by kernel_rfl) (fun _ _ _ h => h) (Or.inl ⟨by rfl, ?_⟩) ?_ ?_
          rotate_left
          · intro w'
            go_simp
            with_reducible rfl
          rotate_left
          · simp only [Act.put, List.setIfInBounds_toArray, List.set_cons_zero, List.set_cons_succ]
            rfl
          refine pure_ (i := 5) (N := some 75) (v := ?_) (a' := ?_) #[true, true, true, true, true, true, false, false, false, false, false, false, false] rfl rfl (by kernel_rfl) (fun _ _ _ h => h) (Or.inl ⟨by rfl, ?_⟩) ?_ ?_
          rotate_left
          · intro w'
            go_simp
            with_reducible rfl
          rotate_left
          · simp only [Act.put, List.setIfInBounds_toArray, List.set_cons_zero, List.set_cons_succ]
            rfl
          refine take_ (i := 6) (N := some 76) (v := ?_) (a' := ?_) #[true, true, true, true, true, true, true, false, false, false, false, false, false] rfl rfl (by kernel_rfl) (fun _ _ _ h => h) (Or.inl ⟨by rfl, ?_⟩) hHeld ?_ ?_
          rotate_left
          · rintro w' ⟨s0, s1, s2, s3, s4, s5, s6, s7, s8, s9, s10, s11, s12, s13⟩
            go_simp
            with_reducible rfl
          rotate_left
          · simp only [Act.put, List.setIfInBounds_toArray, List.set_cons_zero, List.set_cons_succ]
            rfl
          refine one_ (i := 7) (N := some 77) #[true, true, true, true, true, true, true, true, false, false, false, false, false] rfl rfl (by kernel_rfl) (by decide) (fun K hK => ?_)
          refine goes_ Tryd.func32 (by kernel_rfl) rfl #[.agg #[.bool b.big, .bool b.wide, .int .u8 b.abi, .int .u8 b.ver, .string b.pad, .int .u64 b.ty, .int .u64 b.mc, .int .u64 b.en, .int .u64 b.fg, .int .u64 b.nm, .slice B9 b.L.length d9, .slice B10 b.D.length d10], .string s] (by rfl) rfl rfl (by first | rfl | (simp only [List.map_toArray, List.map_cons, List.map_nil]; rfl)) ?_
          refine (HFB2.out wd HTd.out.2.2).mono ?_
          rintro e w1 ⟨rfl, hb1⟩
          refine ⟨_, rfl, ?_⟩
          have HT1 := Lib.hid (HTd.out.below hb1)
          refine hK.out _ _ ⟨(hb1.cell (World.block_lt_of_cell? wd _ p0)).trans p0, (hb1.cell (World.block_lt_of_cell? wd _ p1)).trans p1, (hb1.cell (World.block_lt_of_cell? wd _ p2)).trans p2, (hb1.cell (World.block_lt_of_cell? wd _ p3)).trans p3, (hb1.cell (World.block_lt_of_cell? wd _ p4)).trans p4, (hb1.cell (World.block_lt_of_cell? wd _ p5)).trans p5, (hb1.cell (World.block_lt_of_cell? wd _ p6)).trans p6, (hb1.cell (World.block_lt_of_cell? wd _ p7)).trans p7, (hb1.cell (World.block_lt_of_cell? wd _ p8)).trans p8, (hb1.cell (World.block_lt_of_cell? wd _ p9)).trans p9, (hb1.cell (World.block_lt_of_cell? wd _ p10)).trans p10, (hb1.cell (World.block_lt_of_cell? wd _ p11)).trans p11, (hb1.cell (World.block_lt_of_cell? wd _ pA)).trans pA, (hb1.cell (World.block_lt_of_cell? wd _ qL)).trans qL⟩ (fun hHeld => ?_)
          clear hK K
          refine norm_ (a' := ?_) ?_ ?_
          rotate_left
          · show Act.put _ (some 77) _ = _
            simp only [Act.put, List.setIfInBounds_toArray, List.set_cons_zero, List.set_cons_succ]
            rfl
          refine pure_ (i := 8) (N := some 69) (v := ?_) (a' := ?_) #[true, true, true, true, true, true, true, true, true, false, false, false, false] rfl rfl (by kernel_rfl) (fun _ _ _ h => h) (Or.inl ⟨by rfl, ?_⟩) ?_ ?_
          rotate_left
          · intro w'
            go_simp
            with_reducible rfl
          rotate_left
          · simp only [Act.put, List.setIfInBounds_toArray, List.set_cons_zero, List.set_cons_succ]
            rfl
          refine pure_ (i := 9) (N := some 78) (v := ?_) (a' := ?_) #[true, true, true, true, true, true, true, true, true, true, false, false, false] rfl rfl (by kernel_rfl) (fun _ _ _ h => h) (Or.inl ⟨by rfl, ?_⟩) ?_ ?_
          rotate_left
          · intro w'
            go_simp
            with_reducible rfl
          rotate_left
          · simp only [Act.put, List.setIfInBounds_toArray, List.set_cons_zero, List.set_cons_succ]
            rfl
          refine pure_ (i := 10) (N := some 79) (v := ?_) (a' := ?_) #[true, true, true, true, true, true, true, true, true, true, true, false, false] rfl rfl (by kernel_rfl) (fun _ _ _ h => h) (Or.inl ⟨by rfl, ?_⟩) ?_ ?_
          rotate_left
          · intro w'
            go_simp
            with_reducible rfl
          rotate_left
          · simp only [Act.put, List.setIfInBounds_toArray, List.set_cons_zero, List.set_cons_succ]
            rfl
          refine pure_ (i := 11) (N := some 13) (v := ?_) (a' := ?_) #[true, true, true, true, true, true, true, true, true, true, true, true, false] rfl rfl (by kernel_rfl) (fun _ _ _ h => h) (Or.inl ⟨by rfl, ?_⟩) ?_ ?_
          rotate_left
          · intro w'
            go_simp
            with_reducible rfl
          rotate_left
          · simp only [Act.put, List.setIfInBounds_toArray, List.set_cons_zero, List.set_cons_succ]
            rfl
          refine pure_ (i := 12) (N := some 14) (v := ?_) (a' := ?_) #[true, true, true, true, true, true, true, true, true, true, true, true, true] rfl rfl (by kernel_rfl) (fun _ _ _ h => h) (Or.inl ⟨by rfl, ?_⟩) ?_ ?_
          rotate_left
          · intro w'
            go_simp
            with_reducible rfl
          rotate_left
          · simp only [Act.put, List.setIfInBounds_toArray, List.set_cons_zero, List.set_cons_succ]
            rfl
          refine done_ (by kernel_rfl) ?_
          clear hb1 hHeld HTd p0 p1 p2 p3 p4 p5 p6 p7 p8 p9 p10 p11 pA qL
          cases tb
          · have hany : l.any (fun u => u.toList == s.toList) = true := HANY.out rfl
            have HANY2 := Lib.hid hany
            clear hany HANY
            go_wp2
            go_loopw [15, 16] (fun f i wr => ∃ (j : Nat) (fb : Bool), j ≤ l.length ∧ f = .bool fb ∧ i = .int .i64 j ∧ Hid (DSt w wr _ _ ∧ fb = (l.take j).any (fun u => u.toList == s.toList))) (fun _ i _ => l.length - (intOf i).toNat)
            case atStart => exact ⟨0, false, Nat.zero_le _, rfl, rfl, Lib.hid ⟨HT1.out, rfl⟩⟩
            case round =>
              obtain ⟨j, fb, hj1, rfl, rfl, HR⟩ := hrel
              clear HT1
              by_cases hjt : j < l.length
              · obtain ⟨al, hA, hcl⟩ := str_at HL.out (by omega)
                subst hA
                have o2 := hcl j hjt
                have HTK := Lib.hid (show (l.take (j + 1)).any (fun u => u.toList == s.toList) = ((l.take j).any (fun u => u.toList == s.toList) || l[j].toList == s.toList) by
                  rw [List.take_succ_eq_append_getElem hjt, List.any_append]; simp)
                rw [← HR.out.2] at HTK
                obtain ⟨u, hu⟩ : ∃ u, l[j] = u := ⟨_, rfl⟩
                rw [hu] at o2 HTK
                clear hcl hu
                have q2 := (HR.out.1.2.2.cell (World.block_lt_of_cell? w _ o2)).trans o2
                have q0 := (HR.out.1.2.2.cell (World.block_lt_of_cell? w _ o0)).trans o0
                have qA := blk_cell HR.out.1.1 10
                simp only [List.getElem?_toArray, List.getElem?_cons_succ, List.getElem?_cons_zero] at qA
                cases fb
                · go_upto_region 17 with (fail)
                  go_quiet (fail)
                  go_wp2
                  go_roundw
                  case rel => exact ⟨j + 1, _, by omega, rfl, by go_num, Lib.hid ⟨HR.out.1.below (pw_below_drewN (Below.refl _ _) nq), by rw [HTK.out]; simp⟩⟩
                  case measure => simp [intOf]; omega
                · go_upto_region 17 with (fail)
                  go_quiet (fail)
                  go_wp2
                  go_roundw
                  case rel => exact ⟨j + 1, _, by omega, rfl, by go_num, Lib.hid ⟨HR.out.1.below (pw_below_drewN (Below.refl _ _) nq), by rw [HTK.out]; simp⟩⟩
                  case measure => simp [intOf]; omega
              · have hfb : fb = true := by
                  have h1 := HR.out.2
                  rw [List.take_of_length_le (by omega), HANY2.out] at h1
                  exact h1
                subst hfb
                have HT4 := Lib.hid HR.out.1
                clear HR
                go_wp2
                go_roundw
                case rel => exact ⟨k + 1, by omega, by go_num, HT4⟩
                case measure => simp [intOf]; omega
          · go_wp2
            go_roundw
            case rel => exact ⟨k + 1, by omega, by go_num, HT1⟩
            case measure => simp [intOf]; omega
        · have HT4 := Lib.hid HR.out
          clear HR
          go_wp2
          go_ret
          exact ⟨rfl, HT4.out.2.2⟩
end Go.Proofs.YthphhogljniofaaDoor

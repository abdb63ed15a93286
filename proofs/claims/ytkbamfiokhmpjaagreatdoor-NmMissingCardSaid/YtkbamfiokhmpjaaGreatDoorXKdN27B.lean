/- Names of models' symbols, in plain words, and the closures that choose them. -/
import Derived.Test.YtkbamfiokhmpjaaGreatDoorXKdM27P
import Derived.Maps.OwnIn
import Derived.Maps.Views
import Derived.Maps.OwnSet
import Derived.StringKeys
namespace Go.Proofs.YtkbamfiokhmpjaaGreatDoor
set_option linter.unusedVariables false
set_option linter.unusedSimpArgs false
open Go.RowKit Go.Proofs.YtkbamfiokhmpjaaGreatDoorX.Kd Go.Proofs.YtkbamfiokhmpjaaGreatDoorW.PrintWords Go.Proofs.YtkbamfiokhmpjaaGreatDoorW.PrintLast Go.Proofs.YtkbamfiokhmpjaaGreatDoorW.PrintMore

def undefB (s : S81) : Bool := !s.f6 && (s.f5 == 0)
/-- What chooses a symbol: Missing's two ways, Doubled's. -/
def tDef (s : S81) (u : Bool) : Bool := !u
def tNeed (s : S81) (u : Bool) : Bool := u && (bindR s != 2)
def tStrong (s : S81) (u : Bool) : Bool := !u && (bindR s != 2)
def takes (T : S81 → Bool → Bool) (st : List (List UInt8)) (s : S81) : Bool :=
  (!s.f0.toList.isEmpty) && (bindR s != 0) && (!decide (s.f0.data.toList ∈ st)) && T s (undefB s)
def seenStep (T : S81 → Bool → Bool) (st : List (List UInt8)) (s : S81) : List (List UInt8) := if takes T st s = true then s.f0.data.toList :: st else st
def seenC (T : S81 → Bool → Bool) (st : List (List UInt8)) (c : S80) : List (List UInt8) := (c.f10.drop 1).foldl (seenStep T) st
def seenM (T : S81 → Bool → Bool) (L : List S80) : List (List UInt8) := L.foldl (seenC T) []
def incsM (T : S81 → Bool → Bool) (ms : List MdD) : List (List UInt8) := ms.foldl (fun st m => seenM T m.L ++ st) []
theorem seenStep_len (T : S81 → Bool → Bool) (st : List (List UInt8)) (s : S81) : (seenStep T st s).length ≤ st.length + 1 := by
  unfold seenStep
  split <;> simp
theorem seenFold_len (T : S81 → Bool → Bool) : ∀ (l : List S81) (st : List (List UInt8)), (l.foldl (seenStep T) st).length ≤ st.length + l.length
  | [], st => by simp
  | s :: l, st => by
    rw [List.foldl_cons, List.length_cons]
    have h1 := seenFold_len T l (seenStep T st s)
    have h2 := seenStep_len T st s
    omega
theorem drop_take_succ {α : Type} (l : List α) (k : Nat) (h : k < l.length) (h0 : 0 < k) : (l.take (k + 1)).drop 1 = (l.take k).drop 1 ++ [l[k]] := by
  rw [List.take_succ_eq_append_getElem h, List.drop_append_of_le_length (by rw [List.length_take]; omega)]
/-- What a section's first symbols leave. -/
def seenK (T : S81 → Bool → Bool) (st : List (List UInt8)) (c : S80) (k : Nat) : List (List UInt8) := ((c.f10.take k).drop 1).foldl (seenStep T) st
theorem seenK_zero (T : S81 → Bool → Bool) (st : List (List UInt8)) (c : S80) : seenK T st c 0 = st := by unfold seenK; simp
theorem seenK_one (T : S81 → Bool → Bool) (st : List (List UInt8)) (c : S80) : seenK T st c 1 = st := by
  unfold seenK
  rw [List.drop_eq_nil_of_le (by rw [List.length_take]; omega)]; rfl
theorem seenK_succ (T : S81 → Bool → Bool) (st : List (List UInt8)) (c : S80) (k : Nat) (h : k < c.f10.length) (h0 : 0 < k) : seenK T st c (k + 1) = seenStep T (seenK T st c k) c.f10[k] := by
  unfold seenK
  rw [drop_take_succ c.f10 k h h0, List.foldl_append]; rfl
theorem seenK_all (T : S81 → Bool → Bool) (st : List (List UInt8)) (c : S80) : seenK T st c c.f10.length = seenC T st c := by
  unfold seenK seenC
  rw [List.take_length]
theorem seenK_len (T : S81 → Bool → Bool) (st : List (List UInt8)) (c : S80) (k : Nat) : (seenK T st c k).length ≤ st.length + k := by
  unfold seenK
  have h := seenFold_len T ((c.f10.take k).drop 1) st
  rw [List.length_drop, List.length_take] at h
  omega
theorem seenM_succ (T : S81 → Bool → Bool) (L : List S80) (k : Nat) (h : k < L.length) : seenM T (L.take (k + 1)) = seenC T (seenM T (L.take k)) L[k] := by
  unfold seenM
  rw [List.take_succ_eq_append_getElem h, List.foldl_append]; rfl
theorem incsM_succ (T : S81 → Bool → Bool) (ms : List MdD) (k : Nat) (h : k < ms.length) : incsM T (ms.take (k + 1)) = seenM T ms[k].L ++ incsM T (ms.take k) := by
  unfold incsM
  rw [List.take_succ_eq_append_getElem h, List.foldl_append]; rfl
/-- A map of names. -/
def nameD : List (List UInt8) → DataW Unit
  | [] => .map []
  | s :: r => (nameD r).put (.string s) (.lit (.bool true))
theorem nameD_isMap : ∀ ss, Maps.IsMap (nameD ss)
  | [] => Maps.isMap_empty
  | s :: r => (nameD_isMap r).put _ _
theorem name_at (s : List UInt8) : ∀ ss : List (List UInt8), (nameD ss).atKey (.string s) (.lit (.bool false)) = .lit (.bool (decide (s ∈ ss)))
  | [] => rfl
  | x :: r => by
    unfold nameD
    by_cases h : s = x
    · subst h
      rw [Maps.atKey_put_same (nameD_isMap r) (by simp [WideAt.IsKeyLit])]
      simp
    · rw [Maps.atKey_put_other (fun e => h (by injection e)), name_at s r]
      simp [h]
/-- A map of how often each name was counted. -/
def cntD : List (List UInt8) → DataW Unit
  | [] => .map []
  | s :: r => (cntD r).put (.string s) (.lit (.int .i64 ((r.count s : Nat) + 1 : Int)))
theorem cntD_isMap : ∀ ss, Maps.IsMap (cntD ss)
  | [] => Maps.isMap_empty
  | s :: r => (cntD_isMap r).put _ _
theorem cnt_at (s : List UInt8) : ∀ ss : List (List UInt8), (cntD ss).atKey (.string s) (.lit (.int .i64 0)) = .lit (.int .i64 ((ss.count s : Nat) : Int))
  | [] => rfl
  | x :: r => by
    unfold cntD
    by_cases h : s = x
    · subst h
      rw [Maps.atKey_put_same (cntD_isMap r) (by simp [WideAt.IsKeyLit]), List.count_cons_self]
      rfl
    · rw [Maps.atKey_put_other (fun e => h (by injection e)), cnt_at s r, List.count_cons_of_ne (fun e => h e.symm)]
theorem cntD_has (s : List UInt8) : ∀ ss : List (List UInt8), Maps.has (cntD ss) (.string s) = true ↔ s ∈ ss
  | [] => by simp [cntD, Maps.has_eq]
  | x :: r => by
    unfold cntD
    by_cases h : s = x
    · subst h
      rw [Maps.has_put_same (cntD_isMap r) (by simp [WideAt.IsKeyLit])]
      simp
    · rw [Maps.has_put_other (fun e => h (by injection e)), cntD_has s r]
      simp [h]
theorem name_look {W : World} {b n : Nat} {ss : List (List UInt8)} (h : W.ownsMap Tryz.prog 9 (plainElem (H := Unit) Tryz.prog 4) b n (nameD ss)) (s : ByteArray) (hs : s.size ≤ maxLen) :
    (Instr.lookup 25 (.map (some b)) (.string s) false).run Tryz.prog W = .ok (.bool (decide (s.data.toList ∈ ss))) W := by
  obtain ⟨v, ps, hrun, hv⟩ := h.lookup (Maps.string_keyed Tryz.underlying9) Tryz.underlying25 (Tryz.zeroValue4 W) (plainElem_bool Tryz.underlying4 false) (Go.WideMaps.keyOf_string_mk Tryz.underlying9 hs)
  rw [name_at] at hv
  rw [hrun]
  cases v <;> simp [plainElem, Tryz.underlying4] at hv
  rw [hv.1]
theorem cnt_look {W : World} {b n : Nat} {ss : List (List UInt8)} (h : W.ownsMap Tryz.prog 9 (plainElem (H := Unit) Tryz.prog 3) b n (cntD ss)) (s : ByteArray) (hs : s.size ≤ maxLen) :
    (Instr.lookup 26 (.map (some b)) (.string s) false).run Tryz.prog W = .ok (.int .i64 ((ss.count s.data.toList : Nat) : Int)) W := by
  obtain ⟨c, hrun, hat, _⟩ := h.lookup_int (Maps.string_keyed Tryz.underlying9) Tryz.underlying26 Tryz.underlying3 (Tryz.zeroValue3 W) (Go.WideMaps.keyOf_string_mk Tryz.underlying9 hs)
  rw [cnt_at] at hat
  have hat2 : ((ss.count s.data.toList : Nat) : Int) = c := by
    simp only [DataW.lit.injEq, Lit.int.injEq, true_and] at hat
    exact hat
  rw [hrun, ← hat2]
theorem name_upd {W : World} {b n : Nat} {ss : List (List UInt8)} (h : W.ownsMap Tryz.prog 9 (plainElem (H := Unit) Tryz.prog 4) b n (nameD ss)) (s : ByteArray) (hs : s.size ≤ maxLen) (hn : n < maxLen) :
    ∃ W3, (Instr.mapUpdate 25 (.map (some b)) (.string s) (.bool true)).run Tryz.prog W = .ok () W3 ∧ W3.ownsMap Tryz.prog 9 (plainElem (H := Unit) Tryz.prog 4) b (n + 1) (nameD (s.data.toList :: ss)) ∧ W.grownBy W3 (some b) := by
  obtain ⟨W3, hrun3, hown3, hg3⟩ := h.update (Maps.string_keyed Tryz.underlying9) Tryz.underlying25 hn (Go.WideMaps.keyOf_string_mk Tryz.underlying9 hs) (plainElem_bool Tryz.underlying4 true)
  exact ⟨W3, hrun3, hown3, hg3⟩
theorem cnt_upd {W : World} {b n : Nat} {ss : List (List UInt8)} (h : W.ownsMap Tryz.prog 9 (plainElem (H := Unit) Tryz.prog 3) b n (cntD ss)) (s : ByteArray) (hs : s.size ≤ maxLen) (hn : n < maxLen) (x : Int) (hx : x = ((ss.count s.data.toList : Nat) + 1 : Int)) (hb : x ≤ 9223372036854775807) :
    ∃ W3, (Instr.mapUpdate 26 (.map (some b)) (.string s) (.int .i64 x)).run Tryz.prog W = .ok () W3 ∧ W3.ownsMap Tryz.prog 9 (plainElem (H := Unit) Tryz.prog 3) b (n + 1) (cntD (s.data.toList :: ss)) ∧ W.grownBy W3 (some b) := by
  obtain ⟨W3, hrun3, hown3, hg3⟩ := h.update (Maps.string_keyed Tryz.underlying9) Tryz.underlying26 hn (Go.WideMaps.keyOf_string_mk Tryz.underlying9 hs) (plainElem_int (a := x) Tryz.underlying3 (by simp [Lit.wf, IntKind.min, IntKind.max, IntKind.signed, IntKind.bits]; omega))
  refine ⟨W3, hrun3, ?_, hg3⟩
  subst hx
  exact hown3
theorem owns_below {P : Program} {k : TypeId} {R : Value → Option (DataW Unit × List MemPlace)} {b n : Nat} {D : DataW Unit} {W W' : World} (h : W.ownsMap P k R b n D) (hb : Below W.heap.size W W') : W'.ownsMap P k R b n D := by
  obtain ⟨es, clock, h4, h5⟩ := h
  exact ⟨es, clock, blk_below h4 hb, h5⟩
theorem owns_lt {P : Program} {k : TypeId} {R : Value → Option (DataW Unit × List MemPlace)} {b n : Nat} {D : DataW Unit} {W : World} (h : W.ownsMap P k R b n D) : b < W.heap.size := by
  obtain ⟨es, clock, h4, h5⟩ := h
  exact blk_lt h4
theorem owns_far {P : Program} {k : TypeId} {R : Value → Option (DataW Unit × List MemPlace)} {b n : Nat} {D : DataW Unit} {W W' : World} {g : Nat} (h : W.ownsMap P k R b n D) (hg : W.grownBy W' (some g)) (hne : b ≠ g) : W'.ownsMap P k R b n D := by
  obtain ⟨es, clock, h4, h5⟩ := h
  exact ⟨es, clock, blk_grown h4 hg (fun e => hne (by injection e)), h5⟩
set_option maxRecDepth 100000 in
theorem bind_c (s : S81) (w : World) : Calls Tryz.prog 16 #[.agg #[.string s.f0, .int .u64 s.f1, .int .u64 s.f2, .int .u64 s.f3, .int .u64 s.f4, .int .u64 s.f5, .bool s.f6]] w fun e w' => e = .returned (.int .u64 (bindR s)) ∧ Below w.heap.size w w' :=
  nm_bind.calls s.f0 s.f1 s.f2 s.f3 s.f4 s.f5 s.f6 (bindR s) w (bindR_f s)
set_option maxRecDepth 100000 in
theorem tDef_c (s : S81) (u : Bool) (w : World) : Calls Tryz.prog 14 #[.agg #[.string s.f0, .int .u64 s.f1, .int .u64 s.f2, .int .u64 s.f3, .int .u64 s.f4, .int .u64 s.f5, .bool s.f6], .bool u] w fun e w' => e = .returned (.bool (tDef s u)) ∧ Below w.heap.size w w' := by
  go_enter Tryz.func14, Tryz.ntmps14
  go_wp2
  go_ret
  exact ⟨rfl, below_alloc (Below.refl _ _) _⟩
set_option maxRecDepth 100000 in
theorem tNeed_c (s : S81) (u : Bool) (w : World) : Calls Tryz.prog 15 #[.agg #[.string s.f0, .int .u64 s.f1, .int .u64 s.f2, .int .u64 s.f3, .int .u64 s.f4, .int .u64 s.f5, .bool s.f6], .bool u] w fun e w' => e = .returned (.bool (tNeed s u)) ∧ Below w.heap.size w w' := by
  have HBD := Lib.hid (fun W => bind_c s W)
  unfold tNeed
  obtain ⟨b, hb⟩ : ∃ b, b = bindR s := ⟨_, rfl⟩
  rw [← hb] at HBD ⊢
  clear hb
  cases u
  all_goals (
    go_enter Tryz.func15, Tryz.ntmps15
    go_wp2_with (first | (go_at_call 16; refine (HBD.out _).mono ?_; rintro e w4 ⟨rfl, hb4⟩))
    go_ret
    exact ⟨by first | rfl | simp, by first | exact below_alloc (Below.refl _ _) _ | exact (below_alloc (Below.refl _ _) _).trans (hb4.mono (below_alloc (Below.refl w.heap.size w) _).size)⟩)
set_option maxRecDepth 100000 in
theorem tStrong_c (s : S81) (u : Bool) (w : World) : Calls Tryz.prog 19 #[.agg #[.string s.f0, .int .u64 s.f1, .int .u64 s.f2, .int .u64 s.f3, .int .u64 s.f4, .int .u64 s.f5, .bool s.f6], .bool u] w fun e w' => e = .returned (.bool (tStrong s u)) ∧ Below w.heap.size w w' := by
  have HBD := Lib.hid (fun W => bind_c s W)
  unfold tStrong
  obtain ⟨b, hb⟩ : ∃ b, b = bindR s := ⟨_, rfl⟩
  rw [← hb] at HBD ⊢
  clear hb
  cases u
  all_goals (
    go_enter Tryz.func19, Tryz.ntmps19
    go_wp2_with (first | (go_at_call 16; refine (HBD.out _).mono ?_; rintro e w4 ⟨rfl, hb4⟩))
    go_ret
    exact ⟨by first | rfl | simp, by first | exact below_alloc (Below.refl _ _) _ | exact (below_alloc (Below.refl _ _) _).trans (hb4.mono (below_alloc (Below.refl w.heap.size w) _).size)⟩)
end Go.Proofs.YtkbamfiokhmpjaaGreatDoor

/- A model as a datum in memory. -/
namespace Go.Proofs.YtkbamfiokhmpjaaGreatDoor
set_option linter.unusedVariables false
set_option linter.unusedSimpArgs false
open Go.RowKit Go.Proofs.YtkbamfiokhmpjaaGreatDoorX.Kd Go.Proofs.YtkbamfiokhmpjaaGreatDoorW.PrintWords Go.Proofs.YtkbamfiokhmpjaaGreatDoorW.PrintLast Go.Proofs.YtkbamfiokhmpjaaGreatDoorW.PrintMore

instance : Inhabited MdD := ⟨⟨false, false, 0, 0, ⟨#[]⟩, 0, 0, 0, 0, 0, [], []⟩⟩
def kMod : Kd MdD := Kd.iso (Kd.pair Kd.bool (Kd.pair Kd.bool (Kd.pair (Kd.int .u8) (Kd.pair (Kd.int .u8) (Kd.pair Kd.string (Kd.pair (Kd.int .u64) (Kd.pair (Kd.int .u64) (Kd.pair (Kd.int .u64) (Kd.pair (Kd.int .u64) (Kd.pair (Kd.int .u64) (Kd.pair (Kd.slice 80 k80) (Kd.slice 83 k83)))))))))))) (fun x : MdD => (x.big, x.wide, x.abi, x.ver, x.pad, x.ty, x.mc, x.en, x.fg, x.nm, x.L, x.D))
theorem kMod_open {w : World} {x : MdD} {cs : List Value} (h : kMod.K w x cs) : ∃ A9 c9 A10 c10, cs = [.bool x.big, .bool x.wide, .int .u8 x.abi, .int .u8 x.ver, .string x.pad, .int .u64 x.ty, .int .u64 x.mc, .int .u64 x.en, .int .u64 x.fg, .int .u64 x.nm, .slice A9 x.L.length c9, .slice A10 x.D.length c10] ∧ x.L.length ≤ c9 ∧ Kd.C k80 w A9 x.L.length x.L ∧ Kd.C k83 w A10 x.D.length x.D := by
  obtain ⟨_, _, rfl, rfl, ⟨_, _, rfl, rfl, ⟨_, _, rfl, rfl, ⟨_, _, rfl, rfl, ⟨_, _, rfl, rfl, ⟨_, _, rfl, rfl, ⟨_, _, rfl, rfl, ⟨_, _, rfl, rfl, ⟨_, _, rfl, rfl, ⟨_, _, rfl, rfl, ⟨_, _, rfl, ⟨A9, c9, rfl, l9, g9⟩, ⟨A10, c10, rfl, l10, g10⟩⟩⟩⟩⟩⟩⟩⟩⟩⟩⟩⟩ := h
  exact ⟨A9, c9, A10, c10, rfl, l9, g9, g10⟩
theorem at_Mod {w : World} {A : Option Addr} {n : Nat} {ms : List MdD} (h : Kd.C kMod w A n ms) (k : Nat) (h1 : k < ms.length) (hn : k < n) : ∃ ad A9 c9 A10 c10, A = some ad ∧ w.cell? (ad.add (k * 12)) = some (.bool ms[k].big) ∧ w.cell? ⟨(ad.add (k * 12)).block, (ad.add (k * 12)).off + 1, none⟩ = some (.bool ms[k].wide) ∧ w.cell? ⟨(ad.add (k * 12)).block, (ad.add (k * 12)).off + 2, none⟩ = some (.int .u8 ms[k].abi) ∧ w.cell? ⟨(ad.add (k * 12)).block, (ad.add (k * 12)).off + 3, none⟩ = some (.int .u8 ms[k].ver) ∧ w.cell? ⟨(ad.add (k * 12)).block, (ad.add (k * 12)).off + 4, none⟩ = some (.string ms[k].pad) ∧ w.cell? ⟨(ad.add (k * 12)).block, (ad.add (k * 12)).off + 5, none⟩ = some (.int .u64 ms[k].ty) ∧ w.cell? ⟨(ad.add (k * 12)).block, (ad.add (k * 12)).off + 6, none⟩ = some (.int .u64 ms[k].mc) ∧ w.cell? ⟨(ad.add (k * 12)).block, (ad.add (k * 12)).off + 7, none⟩ = some (.int .u64 ms[k].en) ∧ w.cell? ⟨(ad.add (k * 12)).block, (ad.add (k * 12)).off + 8, none⟩ = some (.int .u64 ms[k].fg) ∧ w.cell? ⟨(ad.add (k * 12)).block, (ad.add (k * 12)).off + 9, none⟩ = some (.int .u64 ms[k].nm) ∧ w.cell? ⟨(ad.add (k * 12)).block, (ad.add (k * 12)).off + 10, none⟩ = some (.slice A9 ms[k].L.length c9) ∧ w.cell? ⟨(ad.add (k * 12)).block, (ad.add (k * 12)).off + 11, none⟩ = some (.slice A10 ms[k].D.length c10) ∧ ms[k].L.length ≤ c9 ∧ Kd.C k80 w A9 ms[k].L.length ms[k].L := by
  obtain ⟨ad, c, e, _, hK, hc0⟩ := Kd.C_get h (default : MdD) (k : Int) (by omega) (by omega)
  rw [Int.toNat_natCast] at hc0 hK
  have hd : ms.getD k default = ms[k] := by simp [List.getD, h1]
  rw [hd] at hK
  have hc : ∀ j u, c[j]? = some u → w.cell? (ad.add (k * 12 + j)) = some u := hc0
  obtain ⟨A9, c9, A10, c10, rfl, l9, g9, g10⟩ := kMod_open hK
  exact ⟨ad, A9, c9, A10, c10, e, hc 0 _ rfl, by rw [← add_field _ _ 1 (by omega)]; exact hc 1 _ rfl, by rw [← add_field _ _ 2 (by omega)]; exact hc 2 _ rfl, by rw [← add_field _ _ 3 (by omega)]; exact hc 3 _ rfl, by rw [← add_field _ _ 4 (by omega)]; exact hc 4 _ rfl, by rw [← add_field _ _ 5 (by omega)]; exact hc 5 _ rfl, by rw [← add_field _ _ 6 (by omega)]; exact hc 6 _ rfl, by rw [← add_field _ _ 7 (by omega)]; exact hc 7 _ rfl, by rw [← add_field _ _ 8 (by omega)]; exact hc 8 _ rfl, by rw [← add_field _ _ 9 (by omega)]; exact hc 9 _ rfl, by rw [← add_field _ _ 10 (by omega)]; exact hc 10 _ rfl, by rw [← add_field _ _ 11 (by omega)]; exact hc 11 _ rfl, l9, g9⟩
/-- What stands in nm.names' innermost round. -/
def NSt (w wx : World) (gS nS gO nO gY : Nat) (s : S81) (cv st : List (List UInt8)) : Prop :=
  wx.ownsMap Tryz.prog 9 (plainElem (H := Unit) Tryz.prog 4) gS nS (nameD cv) ∧ wx.ownsMap Tryz.prog 9 (plainElem (H := Unit) Tryz.prog 3) gO nO (cntD (cv ++ st)) ∧ wx.heap[gY]? = some (.cells #[.string s.f0, .int .u64 s.f1, .int .u64 s.f2, .int .u64 s.f3, .int .u64 s.f4, .int .u64 s.f5, .bool s.f6] 81 (0, 0)) ∧ Below w.heap.size w wx
theorem NSt.below {w wx wy : World} {gS nS gO nO gY : Nat} {s : S81} {cv st : List (List UInt8)} (h : NSt w wx gS nS gO nO gY s cv st) (hb : Below wx.heap.size wx wy) : NSt w wy gS nS gO nO gY s cv st :=
  ⟨owns_below h.1 hb, owns_below h.2.1 hb, blk_below h.2.2.1 hb, h.2.2.2.trans (hb.mono h.2.2.2.size)⟩
/-- What is asked of the models. -/
def okMs (ms : List MdD) : Prop := ms.length ≤ 4 ∧ ∀ m ∈ ms, m.L.length ≤ 13 ∧ ∀ c ∈ m.L, c.f10.length ≤ 17 ∧ ∀ s ∈ c.f10, s.f0.size ≤ 1000
end Go.Proofs.YtkbamfiokhmpjaaGreatDoor

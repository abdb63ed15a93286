/- Contracts over this translation, two models: Diff. -/
import Derived.Test.YthphhogljniofaaDoorXKdM17M
import Derived.Deep.DeepCutAuto
import Derived.BigQuiet
import Derived.StillTailTactics
import Derived.Test.YthphhogljniofaaDoorXKdx1
import Derived.Test.YthphhogljniofaaDoorXKdx4
namespace Go.Proofs.YthphhogljniofaaDoor
set_option linter.unusedVariables false
set_option linter.unusedSimpArgs false
open Go.RowKit Go.Proofs.YthphhogljniofaaDoorX.Kd Go.Proofs.YthphhogljniofaaDoorW.PrintWords Go.Proofs.YthphhogljniofaaDoorW.PrintLast Go.Proofs.YthphhogljniofaaDoorW.PrintMore

attribute [local go_sem high] eqA32 eqA65
theorem wpStill_append {P : Program} {ops : Array Oper} {w : World} {Q : Act → Prop} : ∀ (l1 l2 : List Oper) (a : Act), wpStill P ops w (fun a => wpStill P ops w Q l2 a) l1 a → wpStill P ops w Q (l1 ++ l2) a
  | [], _, _, h => h
  | o :: r, l2, a, h => by
    rw [List.cons_append]
    unfold wpStill at h ⊢
    split
    · rename_i hw
      rw [if_pos hw] at h
      exact Oper.still_mono (fun a' => wpStill_append r l2 a') h
    · rename_i hw
      rw [if_neg hw] at h
      exact wpStill_append r l2 _ h
/-- What follows n operations, once, whatever they leave in some temporaries. -/
theorem still_join {P : Program} {ops : Array Oper} {w : World} {Q : Act → Prop} {l : List Oper} {a : Act} {σ : Type} (n : Nat) (ns : σ → List (Tmp × Value))
    (h1 : ∀ Q' : Act → Prop, (∀ s, Q' (Go.Proofs.YthphhogljniofaaDoorW.PrintLast.putAll a (ns s))) → wpStill P ops w Q' (l.take n) a) (h2 : ∀ s, wpStill P ops w Q (l.drop n) (Go.Proofs.YthphhogljniofaaDoorW.PrintLast.putAll a (ns s))) : wpStill P ops w Q l a := by
  have h := wpStill_append (P := P) (ops := ops) (w := w) (Q := Q) (l.take n) (l.drop n) a (h1 _ h2)
  rwa [List.take_append_drop] at h
theorem still_on {P : Program} {ops : Array Oper} {w : World} {Q : Act → Prop} {o : Oper} {rest : List Oper} {a : Act} (hw : Region.wanted o (yielded ops a.tmps) = true) (h : ∀ K : Act → Prop, (∀ a, wpStill P ops w Q rest a → K a) → o.still P a w K) : wpStill P ops w Q (o :: rest) a := by
  unfold wpStill
  rw [if_pos hw]
  exact h _ (fun _ h => h)
theorem still_off {P : Program} {ops : Array Oper} {w : World} {Q : Act → Prop} {o : Oper} {rest : List Oper} {a : Act} (hw : Region.wanted o (yielded ops a.tmps) = false) (h : wpStill P ops w Q rest (a.put o.dst undef)) : wpStill P ops w Q (o :: rest) a := by
  unfold wpStill
  rw [if_neg (by rw [hw]; exact Bool.false_ne_true)]
  exact h
theorem still_hide {P : Program} {ops : Array Oper} {w : World} {Q : Act → Prop} {l : List Oper} {a : Act} (h : ∀ Q' : Act → Prop, (∀ a, Q a → Q' a) → wpStill P ops w Q' l a) : wpStill P ops w Q l a := h Q (fun _ h => h)
/-- A model, as data. -/
structure MdD where
  big : Bool
  wide : Bool
  abi : Int
  ver : Int
  pad : ByteArray
  ty : Int
  mc : Int
  en : Int
  fg : Int
  nm : Int
  L : List S58
  D : List S65
def itoaR (k : Nat) : ByteArray := if k < 10 then ⟨#[(48 + k).toUInt8]⟩ else ⟨#[(48 + k / 10).toUInt8, (48 + k % 10).toUInt8]⟩
set_option maxRecDepth 100000 in
theorem small_any (k : Nat) (hk : k < 16) (w : World) : Calls Tryd.prog 50 #[.int .i64 k] w fun e w' => e = .returned (.string (itoaR k)) ∧ w' = w := by
  have h0 : (0 : Int) ≤ (k : Int) := by omega
  by_cases h10 : (k : Int) < 10
  · have w1 : wrap64 ((k : Int) + 1) = ((k + 1 : Nat) : Int) := by unfold wrap64; omega
    go_enter Tryd.func50, Tryd.ntmps50
    have hh : k + 1 ≤ 36 := by omega
    go_wp2
    go_ret
    refine ⟨?_, rfl⟩
    show Ending.returned (Value.string _) = Ending.returned (Value.string _)
    refine congrArg (fun s => Ending.returned (Value.string s)) ?_
    rcases (by omega : k = 0 ∨ k = 1 ∨ k = 2 ∨ k = 3 ∨ k = 4 ∨ k = 5 ∨ k = 6 ∨ k = 7 ∨ k = 8 ∨ k = 9) with rfl | rfl | rfl | rfl | rfl | rfl | rfl | rfl | rfl | rfl <;> decide
  · have w1 : wrap64 ((k : Int) * 2) = ((k * 2 : Nat) : Int) := by unfold wrap64; omega
    have w2 : wrap64 (((k * 2 : Nat) : Int) + 2) = ((k * 2 + 2 : Nat) : Int) := by unfold wrap64; omega
    have h3 : k * 2 + 2 ≤ 200 := by omega
    go_enter Tryd.func50, Tryd.ntmps50
    go_wp2
    go_ret
    refine ⟨?_, rfl⟩
    show Ending.returned (Value.string _) = Ending.returned (Value.string _)
    refine congrArg (fun s => Ending.returned (Value.string s)) ?_
    rcases (by omega : k = 10 ∨ k = 11 ∨ k = 12 ∨ k = 13 ∨ k = 14 ∨ k = 15) with rfl | rfl | rfl | rfl | rfl | rfl <;> decide
theorem format_any (k : Nat) (hk : k < 16) (w : World) : Calls Tryd.prog 46 #[.int .i64 k, .int .i64 10] w fun e w' => e = .returned (.string (itoaR k)) ∧ w' = w := by
  have h0 : (0 : Int) ≤ (k : Int) := by omega
  have h1 : (k : Int) < 100 := by omega
  have HS := Lib.hid (small_any k hk)
  go_enter Tryd.func46, Tryd.ntmps46
  go_wp2_with (first | (go_at_call 50; refine (HS.out _).mono ?_; rintro e w1 ⟨rfl, rfl⟩))
  go_ret
  exact ⟨rfl, rfl⟩
theorem itoa_in (k : Nat) (hk : k < 16) (w : World) : Calls Tryd.prog 41 #[.int .i64 k] w fun e w' => e = .returned (.string (itoaR k)) ∧ w' = w := by
  have HS := Lib.hid (format_any k hk)
  go_enter Tryd.func41, Tryd.ntmps41
  go_wp2_with (first | (go_at_call 46; refine (HS.out _).mono ?_; rintro e w1 ⟨rfl, rfl⟩))
  go_ret
  exact ⟨rfl, rfl⟩
theorem itoa_any (k : Nat) (hk : k < 16) (w : World) : Calls Tryd.prog 25 #[.int .i64 k] w fun e w' => e = .returned (.string (itoaR k)) ∧ w' = w := by
  have HS := Lib.hid (itoa_in k hk)
  go_enter Tryd.func25, Tryd.ntmps25
  go_wp2_with (first | (go_at_call 41; refine (HS.out _).mono ?_; rintro e w1 ⟨rfl, rfl⟩))
  go_ret
  exact ⟨rfl, rfl⟩
def headR (a b : MdD) : ByteArray := firstR [⟨(⟨#[105, 100, 101, 110, 116]⟩ : ByteArray), (((a.big == b.big) && (a.wide == b.wide)) && (a.abi == b.abi)) && (a.ver == b.ver)⟩, ⟨(⟨#[104, 101, 97, 100, 101, 114]⟩ : ByteArray), ((((a.ty == b.ty) && (a.mc == b.mc)) && (a.en == b.en)) && (a.fg == b.fg)) && (a.nm == b.nm)⟩, ⟨(⟨#[115, 101, 99, 116, 105, 111, 110, 115]⟩ : ByteArray), (a.L.length : Int) == (b.L.length : Int)⟩]
noncomputable def secsR : Nat → List S58 → List S58 → ByteArray
  | i, x :: xs, y :: ys => if whereR x y = ⟨#[]⟩ then secsR (i + 1) xs ys else (((⟨#[115, 101, 99, 116, 105, 111, 110, 32]⟩ : ByteArray) ++ itoaR i) ++ (⟨#[32]⟩ : ByteArray)) ++ whereR x y
  | _, _, _ => ⟨#[]⟩
noncomputable def segsDR : Nat → List S65 → List S65 → ByteArray
  | i, x :: xs, y :: ys => if eqC x y = true then segsDR (i + 1) xs ys else (⟨#[115, 101, 103, 109, 101, 110, 116, 32]⟩ : ByteArray) ++ itoaR i
  | _, _, _ => ⟨#[]⟩
/-- Where two models part. -/
noncomputable def diffR (a b : MdD) : ByteArray :=
  if headR a b ≠ ⟨#[]⟩ then headR a b else if secsR 0 a.L b.L ≠ ⟨#[]⟩ then secsR 0 a.L b.L else if a.D.length ≠ b.D.length then (⟨#[115, 101, 103, 109, 101, 110, 116, 115]⟩ : ByteArray) else segsDR 0 a.D b.D
theorem headR_nil {a b : MdD} (h : headR a b = ⟨#[]⟩) : (a.big = b.big ∧ a.wide = b.wide ∧ a.abi = b.abi ∧ a.ver = b.ver) ∧ (a.ty = b.ty ∧ a.mc = b.mc ∧ a.en = b.en ∧ a.fg = b.fg ∧ a.nm = b.nm) ∧ a.L.length = b.L.length := by
  unfold headR firstR at h
  split at h
  · rename_i h1
    unfold firstR at h
    split at h
    · rename_i h2
      unfold firstR at h
      split at h
      · rename_i h3
        simp only [Bool.and_eq_true, beq_iff_eq] at h1 h2 h3
        exact ⟨⟨h1.1.1.1, h1.1.1.2, h1.1.2, h1.2⟩, ⟨h2.1.1.1.1, h2.1.1.1.2, h2.1.1.2, h2.1.2, h2.2⟩, by omega⟩
      · cases h
    · cases h
  · cases h
theorem headR_of {a b : MdD} (h1 : a.big = b.big ∧ a.wide = b.wide ∧ a.abi = b.abi ∧ a.ver = b.ver) (h2 : a.ty = b.ty ∧ a.mc = b.mc ∧ a.en = b.en ∧ a.fg = b.fg ∧ a.nm = b.nm) (h3 : a.L.length = b.L.length) : headR a b = ⟨#[]⟩ := by
  unfold headR
  rw [h1.1, h1.2.1, h1.2.2.1, h1.2.2.2, h2.1, h2.2.1, h2.2.2.1, h2.2.2.2.1, h2.2.2.2.2, h3]
  simp [firstR]
theorem firstR_size : ∀ (L : List S90), (∀ p ∈ L, p.f0.size ≤ 11) → (firstR L).size ≤ 11
  | [], _ => by decide
  | p :: r, h => by
    unfold firstR
    split
    · exact firstR_size r (fun q hq => h q (List.mem_cons_of_mem _ hq))
    · exact h p List.mem_cons_self
theorem whereR_size (x y : S58) : (whereR x y).size ≤ 11 := by
  apply firstR_size
  intro p hp
  simp only [List.mem_cons, List.not_mem_nil, or_false] at hp
  rcases hp with rfl | rfl | rfl | rfl | rfl | rfl <;> (dsimp only; decide)
theorem itoaR_size (k : Nat) : (itoaR k).size ≤ 2 := by
  unfold itoaR
  split
  · exact Nat.le_succ 1
  · exact Nat.le_refl 2
theorem ba_niL {h : ByteArray} : h.toList = [] ↔ h = ⟨#[]⟩ := by
  have e : (⟨#[]⟩ : ByteArray).toList = [] := by rw [Lib.toList_data]
  constructor
  · intro h0; exact ba_toList_inj.1 (h0.trans e.symm)
  · intro h0; rw [h0, e]
theorem secsR_nil (i : Nat) (ys : List S58) : secsR i [] ys = ⟨#[]⟩ := by unfold secsR; rfl
theorem segsDR_nil (i : Nat) (ys : List S65) : segsDR i [] ys = ⟨#[]⟩ := by unfold segsDR; rfl
theorem eqG_ne (x y : S65) : (!(x.f0 == y.f0) || (!(x.f1 == y.f1) || (!(x.f2 == y.f2) || (!(x.f3 == y.f3) || (!(x.f4 == y.f4) || (!(x.f5 == y.f5) || (!(x.f6.toList == y.f6.toList)))))))) = true ↔ x ≠ y := by
  constructor
  · intro h he
    subst he
    simp at h
  · intro h
    refine Classical.byContradiction fun h0 => ?_
    have h2 := Bool.eq_false_iff.2 h0
    apply h
    simp only [Bool.or_eq_false_iff, Bool.not_eq_false', beq_iff_eq, ba_toList_inj] at h2
    cases x; cases y
    simp only at h2
    obtain ⟨rfl, rfl, rfl, rfl, rfl, rfl, rfl⟩ := h2
    rfl
/-- Where Diff stands. -/
def DSt (w0 wx : World) (AC BC : Array Value) : Prop :=
  wx.heap[w0.heap.size]? = some (.cells AC 39 (0, 0)) ∧ wx.heap[w0.heap.size + 1]? = some (.cells BC 39 (0, 0)) ∧ Below w0.heap.size w0 wx
theorem DSt.below {w0 wx wy : World} {AC BC : Array Value} (h : DSt w0 wx AC BC) (hb : Below wx.heap.size wx wy) : DSt w0 wy AC BC :=
  ⟨blk_below h.1 hb, blk_below h.2.1 hb, h.2.2.trans (hb.mono h.2.2.size)⟩
set_option maxRecDepth 100000 in
set_option maxHeartbeats 16000000 in
theorem diff_any (a b : MdD) (ha : a.L.length ≤ 16) (hd : a.D.length ≤ 16) (A9 A10 B9 B10 : Option Addr) (c9 c10 d9 d10 : Nat) (w : World) (hA9 : Kd.C k58 w A9 a.L.length a.L) (hA10 : Kd.C k65 w A10 a.D.length a.D) (hB9 : Kd.C k58 w B9 b.L.length b.L) (hB10 : Kd.C k65 w B10 b.D.length b.D) :
    Calls Tryd.prog 12 #[.agg #[.bool a.big, .bool a.wide, .int .u8 a.abi, .int .u8 a.ver, .string a.pad, .int .u64 a.ty, .int .u64 a.mc, .int .u64 a.en, .int .u64 a.fg, .int .u64 a.nm, .slice A9 a.L.length c9, .slice A10 a.D.length c10], .agg #[.bool b.big, .bool b.wide, .int .u8 b.abi, .int .u8 b.ver, .string b.pad, .int .u64 b.ty, .int .u64 b.mc, .int .u64 b.en, .int .u64 b.fg, .int .u64 b.nm, .slice B9 b.L.length d9, .slice B10 b.D.length d10]] w fun e w' => e = .returned (.string (diffR a b)) ∧ Below w.heap.size w w' := by
  have HA9 := Lib.hid hA9
  have HA10 := Lib.hid hA10
  have HB9 := Lib.hid hB9
  have HB10 := Lib.hid hB10
  clear hA9 hA10 hB9 hB10
  go_enter Tryd.func12, Tryd.ntmps12
  go_upto_region 1 with (fail)
  obtain ⟨wA, hwA⟩ : ∃ wA, wA = (w.alloc (.cells #[.bool a.big, .bool a.wide, .int .u8 a.abi, .int .u8 a.ver, .string a.pad, .int .u64 a.ty, .int .u64 a.mc, .int .u64 a.en, .int .u64 a.fg, .int .u64 a.nm, .slice A9 a.L.length c9, .slice A10 a.D.length c10] 39)).alloc (.cells #[.bool b.big, .bool b.wide, .int .u8 b.abi, .int .u8 b.ver, .string b.pad, .int .u64 b.ty, .int .u64 b.mc, .int .u64 b.en, .int .u64 b.fg, .int .u64 b.nm, .slice B9 b.L.length d9, .slice B10 b.D.length d10] 39) := ⟨_, rfl⟩
  have HT := Lib.hid (show DSt w wA #[.bool a.big, .bool a.wide, .int .u8 a.abi, .int .u8 a.ver, .string a.pad, .int .u64 a.ty, .int .u64 a.mc, .int .u64 a.en, .int .u64 a.fg, .int .u64 a.nm, .slice A9 a.L.length c9, .slice A10 a.D.length c10] #[.bool b.big, .bool b.wide, .int .u8 b.abi, .int .u8 b.ver, .string b.pad, .int .u64 b.ty, .int .u64 b.mc, .int .u64 b.en, .int .u64 b.fg, .int .u64 b.nm, .slice B9 b.L.length d9, .slice B10 b.D.length d10] from by
    have h1 := blk_new (w.alloc (.cells #[.bool a.big, .bool a.wide, .int .u8 a.abi, .int .u8 a.ver, .string a.pad, .int .u64 a.ty, .int .u64 a.mc, .int .u64 a.en, .int .u64 a.fg, .int .u64 a.nm, .slice A9 a.L.length c9, .slice A10 a.D.length c10] 39)) (.cells #[.bool b.big, .bool b.wide, .int .u8 b.abi, .int .u8 b.ver, .string b.pad, .int .u64 b.ty, .int .u64 b.mc, .int .u64 b.en, .int .u64 b.fg, .int .u64 b.nm, .slice B9 b.L.length d9, .slice B10 b.D.length d10] 39)
    rw [World.size_alloc] at h1
    rw [hwA]
    exact ⟨blk_alloc (blk_new w _) _, h1, ((Below.refl _ _).alloc (Nat.le_refl _) _).alloc (by simp) _⟩)
  rw [← hwA]
  clear hwA
  go_cut [5] (fun s5 wx => s5 = .string (headR a b) ∧ Hid (DSt w wx #[.bool a.big, .bool a.wide, .int .u8 a.abi, .int .u8 a.ver, .string a.pad, .int .u64 a.ty, .int .u64 a.mc, .int .u64 a.en, .int .u64 a.fg, .int .u64 a.nm, .slice A9 a.L.length c9, .slice A10 a.D.length c10] #[.bool b.big, .bool b.wide, .int .u8 b.abi, .int .u8 b.ver, .string b.pad, .int .u64 b.ty, .int .u64 b.mc, .int .u64 b.en, .int .u64 b.fg, .int .u64 b.nm, .slice B9 b.L.length d9, .slice B10 b.D.length d10]))
  case first =>
    have p0 := blk_cell HT.out.1 0
    have q0 := blk_cell HT.out.2.1 0
    have p1 := blk_cell HT.out.1 1
    have q1 := blk_cell HT.out.2.1 1
    have p2 := blk_cell HT.out.1 2
    have q2 := blk_cell HT.out.2.1 2
    have p3 := blk_cell HT.out.1 3
    have q3 := blk_cell HT.out.2.1 3
    have p4 := blk_cell HT.out.1 4
    have q4 := blk_cell HT.out.2.1 4
    have p5 := blk_cell HT.out.1 5
    have q5 := blk_cell HT.out.2.1 5
    have p6 := blk_cell HT.out.1 6
    have q6 := blk_cell HT.out.2.1 6
    have p7 := blk_cell HT.out.1 7
    have q7 := blk_cell HT.out.2.1 7
    have p8 := blk_cell HT.out.1 8
    have q8 := blk_cell HT.out.2.1 8
    have p9 := blk_cell HT.out.1 9
    have q9 := blk_cell HT.out.2.1 9
    have p10 := blk_cell HT.out.1 10
    have q10 := blk_cell HT.out.2.1 10
    have p11 := blk_cell HT.out.1 11
    have q11 := blk_cell HT.out.2.1 11
    simp only [List.getElem?_toArray, List.getElem?_cons_succ, List.getElem?_cons_zero] at p0 q0 p1 q1 p2 q2 p3 q3 p4 q4 p5 q5 p6 q6 p7 q7 p8 q8 p9 q9 p10 q10 p11 q11
    obtain ⟨x1, hx1⟩ : ∃ x1 : Bool, ((a.big == b.big) && (a.wide == b.wide)) = x1 := ⟨_, rfl⟩
    have HX1 := Lib.hid hx1
    obtain ⟨x2, hx2⟩ : ∃ x2 : Bool, (a.abi == b.abi) = x2 := ⟨_, rfl⟩
    have HX2 := Lib.hid hx2
    obtain ⟨x3, hx3⟩ : ∃ x3 : Bool, (a.ver == b.ver) = x3 := ⟨_, rfl⟩
    have HX3 := Lib.hid hx3
    obtain ⟨y1, hy1⟩ : ∃ y1 : Bool, (a.ty == b.ty) = y1 := ⟨_, rfl⟩
    have HY1 := Lib.hid hy1
    obtain ⟨y2, hy2⟩ : ∃ y2 : Bool, (a.mc == b.mc) = y2 := ⟨_, rfl⟩
    have HY2 := Lib.hid hy2
    obtain ⟨y3, hy3⟩ : ∃ y3 : Bool, (a.en == b.en) = y3 := ⟨_, rfl⟩
    have HY3 := Lib.hid hy3
    obtain ⟨y4, hy4⟩ : ∃ y4 : Bool, (a.fg == b.fg) = y4 := ⟨_, rfl⟩
    have HY4 := Lib.hid hy4
    obtain ⟨y5, hy5⟩ : ∃ y5 : Bool, (a.nm == b.nm) = y5 := ⟨_, rfl⟩
    have HY5 := Lib.hid hy5
    obtain ⟨z2, hz2⟩ : ∃ z2 : Bool, (x1 && x2) = z2 := ⟨_, rfl⟩
    obtain ⟨z3, hz3⟩ : ∃ z3 : Bool, (z2 && x3) = z3 := ⟨_, rfl⟩
    obtain ⟨z5, hz5⟩ : ∃ z5 : Bool, (y1 && y2) = z5 := ⟨_, rfl⟩
    obtain ⟨z6, hz6⟩ : ∃ z6 : Bool, (z5 && y3) = z6 := ⟨_, rfl⟩
    obtain ⟨z7, hz7⟩ : ∃ z7 : Bool, (z6 && y4) = z7 := ⟨_, rfl⟩
    obtain ⟨z8, hz8⟩ : ∃ z8 : Bool, (z7 && y5) = z8 := ⟨_, rfl⟩
    have HZ := Lib.hid (show headR a b = firstR [⟨(⟨#[105, 100, 101, 110, 116]⟩ : ByteArray), z3⟩, ⟨(⟨#[104, 101, 97, 100, 101, 114]⟩ : ByteArray), z8⟩, ⟨(⟨#[115, 101, 99, 116, 105, 111, 110, 115]⟩ : ByteArray), (a.L.length : Int) == (b.L.length : Int)⟩] by
      unfold headR
      rw [hx1, hx2, hx3, hy1, hy2, hy3, hy4, hy5, hz2, hz3, hz5, hz6, hz7, hz8])
    refine wp_region_still_tail 68 (by kernel_rfl) (by kernel_rfl) ?_
    refine still_hide (fun Q1 hQ1 => ?_)
    simp only [List.append_eq, List.cons_append, List.nil_append, List.take_succ_cons, List.take_zero]
    iterate 8 (refine still_on (by rfl) (fun K hK => ?_); go_simp; refine hK _ ?_; clear hK K)
    refine still_join (σ := Value × Value × Value × Value × Value × Value × Value) 8 (fun s => [(19, s.1), (20, s.2.1), (21, s.2.2.1), (22, s.2.2.2.1), (23, s.2.2.2.2.1), (24, s.2.2.2.2.2.1), (25, s.2.2.2.2.2.2), (26, .bool z2)]) (fun Q' hQ' => ?_) (fun s => ?_)
    · simp only [List.take_succ_cons, List.take_zero]
      simp only [Go.Proofs.YthphhogljniofaaDoorW.PrintLast.putAll, Act.put, List.setIfInBounds_toArray, List.set_cons_zero, List.set_cons_succ, Prod.forall] at hQ'
      clear hQ1
      rcases Bool.eq_false_or_eq_true x1 with hb | hb
      · rw [hb, Bool.true_and] at hz2
        rw [← hz2] at hQ'
        simp only [hb] at hQ'
        clear hz2 HZ
        refine still_on (by first | rfl | (show (some x1 == some true) = true; rw [hb]; rfl)) (fun K hK => ?_); go_simp; refine hK _ ?_; clear hK K
        refine still_on (by first | rfl | (show (some x1 == some true) = true; rw [hb]; rfl)) (fun K hK => ?_); go_simp; refine hK _ ?_; clear hK K
        refine still_on (by first | rfl | (show (some x1 == some true) = true; rw [hb]; rfl)) (fun K hK => ?_); go_simp; refine hK _ ?_; clear hK K
        refine still_on (by first | rfl | (show (some x1 == some true) = true; rw [hb]; rfl)) (fun K hK => ?_); go_simp; refine hK _ ?_; clear hK K
        refine still_on (by first | rfl | (show (some x1 == some true) = true; rw [hb]; rfl)) (fun K hK => ?_); go_simp; refine hK _ ?_; clear hK K
        refine still_on (by first | rfl | (show (some x1 == some true) = true; rw [hb]; rfl)) (fun K hK => ?_); go_simp; refine hK _ ?_; clear hK K
        refine still_on (by first | rfl | (show (some x1 == some true) = true; rw [hb]; rfl)) (fun K hK => ?_); go_simp; refine hK _ ?_; clear hK K
        (refine still_on (by rfl) (fun K hK => ?_); go_simp; refine hK _ ?_; clear hK K)
        exact wpStill_nil (hQ' _ _ _ _ _ _ _)
      · rw [hb, Bool.false_and] at hz2
        rw [← hz2] at hQ'
        simp only [hb] at hQ'
        clear hz2 HZ
        iterate 7 (refine still_off (by first | rfl | (show (some x1 == some true) = false; rw [hb]; rfl)) ?_; simp only [Act.put, List.setIfInBounds_toArray, List.set_cons_zero, List.set_cons_succ])
        (refine still_on (by rfl) (fun K hK => ?_); go_simp; refine hK _ ?_; clear hK K)
        exact wpStill_nil (hQ' _ _ _ _ _ _ _)
    obtain ⟨t19, t20, t21, t22, t23, t24, t25⟩ := s
    simp only [List.drop_succ_cons, List.drop_zero, Go.Proofs.YthphhogljniofaaDoorW.PrintLast.putAll, Act.put, List.setIfInBounds_toArray, List.set_cons_zero, List.set_cons_succ]
    iterate 1 (refine still_on (by rfl) (fun K hK => ?_); go_simp; refine hK _ ?_; clear hK K)
    refine still_join (σ := Value × Value × Value × Value × Value × Value × Value) 8 (fun s => [(28, s.1), (29, s.2.1), (30, s.2.2.1), (31, s.2.2.2.1), (32, s.2.2.2.2.1), (33, s.2.2.2.2.2.1), (34, s.2.2.2.2.2.2), (35, .bool z3)]) (fun Q' hQ' => ?_) (fun s => ?_)
    · simp only [List.take_succ_cons, List.take_zero]
      simp only [Go.Proofs.YthphhogljniofaaDoorW.PrintLast.putAll, Act.put, List.setIfInBounds_toArray, List.set_cons_zero, List.set_cons_succ, Prod.forall] at hQ'
      clear hQ1
      rcases Bool.eq_false_or_eq_true z2 with hb | hb
      · rw [hb, Bool.true_and] at hz3
        rw [← hz3] at hQ'
        simp only [hb] at hQ'
        clear hz3 HZ
        refine still_on (by first | rfl | (show (some z2 == some true) = true; rw [hb]; rfl)) (fun K hK => ?_); go_simp; refine hK _ ?_; clear hK K
        refine still_on (by first | rfl | (show (some z2 == some true) = true; rw [hb]; rfl)) (fun K hK => ?_); go_simp; refine hK _ ?_; clear hK K
        refine still_on (by first | rfl | (show (some z2 == some true) = true; rw [hb]; rfl)) (fun K hK => ?_); go_simp; refine hK _ ?_; clear hK K
        refine still_on (by first | rfl | (show (some z2 == some true) = true; rw [hb]; rfl)) (fun K hK => ?_); go_simp; refine hK _ ?_; clear hK K
        refine still_on (by first | rfl | (show (some z2 == some true) = true; rw [hb]; rfl)) (fun K hK => ?_); go_simp; refine hK _ ?_; clear hK K
        refine still_on (by first | rfl | (show (some z2 == some true) = true; rw [hb]; rfl)) (fun K hK => ?_); go_simp; refine hK _ ?_; clear hK K
        refine still_on (by first | rfl | (show (some z2 == some true) = true; rw [hb]; rfl)) (fun K hK => ?_); go_simp; refine hK _ ?_; clear hK K
        (refine still_on (by rfl) (fun K hK => ?_); go_simp; refine hK _ ?_; clear hK K)
        exact wpStill_nil (hQ' _ _ _ _ _ _ _)
      · rw [hb, Bool.false_and] at hz3
        rw [← hz3] at hQ'
        simp only [hb] at hQ'
        clear hz3 HZ
        iterate 7 (refine still_off (by first | rfl | (show (some z2 == some true) = false; rw [hb]; rfl)) ?_; simp only [Act.put, List.setIfInBounds_toArray, List.set_cons_zero, List.set_cons_succ])
        (refine still_on (by rfl) (fun K hK => ?_); go_simp; refine hK _ ?_; clear hK K)
        exact wpStill_nil (hQ' _ _ _ _ _ _ _)
    obtain ⟨t28, t29, t30, t31, t32, t33, t34⟩ := s
    simp only [List.drop_succ_cons, List.drop_zero, Go.Proofs.YthphhogljniofaaDoorW.PrintLast.putAll, Act.put, List.setIfInBounds_toArray, List.set_cons_zero, List.set_cons_succ]
    iterate 7 (refine still_on (by rfl) (fun K hK => ?_); go_simp; refine hK _ ?_; clear hK K)
    refine still_join (σ := Value × Value × Value × Value × Value) 6 (fun s => [(43, s.1), (44, s.2.1), (45, s.2.2.1), (46, s.2.2.2.1), (47, s.2.2.2.2), (48, .bool z5)]) (fun Q' hQ' => ?_) (fun s => ?_)
    · simp only [List.take_succ_cons, List.take_zero]
      simp only [Go.Proofs.YthphhogljniofaaDoorW.PrintLast.putAll, Act.put, List.setIfInBounds_toArray, List.set_cons_zero, List.set_cons_succ, Prod.forall] at hQ'
      clear hQ1
      rcases Bool.eq_false_or_eq_true y1 with hb | hb
      · rw [hb, Bool.true_and] at hz5
        rw [← hz5] at hQ'
        simp only [hb] at hQ'
        clear hz5 HZ
        refine still_on (by first | rfl | (show (some y1 == some true) = true; rw [hb]; rfl)) (fun K hK => ?_); go_simp; refine hK _ ?_; clear hK K
        refine still_on (by first | rfl | (show (some y1 == some true) = true; rw [hb]; rfl)) (fun K hK => ?_); go_simp; refine hK _ ?_; clear hK K
        refine still_on (by first | rfl | (show (some y1 == some true) = true; rw [hb]; rfl)) (fun K hK => ?_); go_simp; refine hK _ ?_; clear hK K
        refine still_on (by first | rfl | (show (some y1 == some true) = true; rw [hb]; rfl)) (fun K hK => ?_); go_simp; refine hK _ ?_; clear hK K
        refine still_on (by first | rfl | (show (some y1 == some true) = true; rw [hb]; rfl)) (fun K hK => ?_); go_simp; refine hK _ ?_; clear hK K
        (refine still_on (by rfl) (fun K hK => ?_); go_simp; refine hK _ ?_; clear hK K)
        exact wpStill_nil (hQ' _ _ _ _ _)
      · rw [hb, Bool.false_and] at hz5
        rw [← hz5] at hQ'
        simp only [hb] at hQ'
        clear hz5 HZ
        iterate 5 (refine still_off (by first | rfl | (show (some y1 == some true) = false; rw [hb]; rfl)) ?_; simp only [Act.put, List.setIfInBounds_toArray, List.set_cons_zero, List.set_cons_succ])
        (refine still_on (by rfl) (fun K hK => ?_); go_simp; refine hK _ ?_; clear hK K)
        exact wpStill_nil (hQ' _ _ _ _ _)
    obtain ⟨t43, t44, t45, t46, t47⟩ := s
    simp only [List.drop_succ_cons, List.drop_zero, Go.Proofs.YthphhogljniofaaDoorW.PrintLast.putAll, Act.put, List.setIfInBounds_toArray, List.set_cons_zero, List.set_cons_succ]
    iterate 1 (refine still_on (by rfl) (fun K hK => ?_); go_simp; refine hK _ ?_; clear hK K)
    refine still_join (σ := Value × Value × Value × Value × Value) 6 (fun s => [(50, s.1), (51, s.2.1), (52, s.2.2.1), (53, s.2.2.2.1), (54, s.2.2.2.2), (55, .bool z6)]) (fun Q' hQ' => ?_) (fun s => ?_)
    · simp only [List.take_succ_cons, List.take_zero]
      simp only [Go.Proofs.YthphhogljniofaaDoorW.PrintLast.putAll, Act.put, List.setIfInBounds_toArray, List.set_cons_zero, List.set_cons_succ, Prod.forall] at hQ'
      clear hQ1
      rcases Bool.eq_false_or_eq_true z5 with hb | hb
      · rw [hb, Bool.true_and] at hz6
        rw [← hz6] at hQ'
        simp only [hb] at hQ'
        clear hz6 HZ
        refine still_on (by first | rfl | (show (some z5 == some true) = true; rw [hb]; rfl)) (fun K hK => ?_); go_simp; refine hK _ ?_; clear hK K
        refine still_on (by first | rfl | (show (some z5 == some true) = true; rw [hb]; rfl)) (fun K hK => ?_); go_simp; refine hK _ ?_; clear hK K
        refine still_on (by first | rfl | (show (some z5 == some true) = true; rw [hb]; rfl)) (fun K hK => ?_); go_simp; refine hK _ ?_; clear hK K
        refine still_on (by first | rfl | (show (some z5 == some true) = true; rw [hb]; rfl)) (fun K hK => ?_); go_simp; refine hK _ ?_; clear hK K
        refine still_on (by first | rfl | (show (some z5 == some true) = true; rw [hb]; rfl)) (fun K hK => ?_); go_simp; refine hK _ ?_; clear hK K
        (refine still_on (by rfl) (fun K hK => ?_); go_simp; refine hK _ ?_; clear hK K)
        exact wpStill_nil (hQ' _ _ _ _ _)
      · rw [hb, Bool.false_and] at hz6
        rw [← hz6] at hQ'
        simp only [hb] at hQ'
        clear hz6 HZ
        iterate 5 (refine still_off (by first | rfl | (show (some z5 == some true) = false; rw [hb]; rfl)) ?_; simp only [Act.put, List.setIfInBounds_toArray, List.set_cons_zero, List.set_cons_succ])
        (refine still_on (by rfl) (fun K hK => ?_); go_simp; refine hK _ ?_; clear hK K)
        exact wpStill_nil (hQ' _ _ _ _ _)
    obtain ⟨t50, t51, t52, t53, t54⟩ := s
    simp only [List.drop_succ_cons, List.drop_zero, Go.Proofs.YthphhogljniofaaDoorW.PrintLast.putAll, Act.put, List.setIfInBounds_toArray, List.set_cons_zero, List.set_cons_succ]
    iterate 1 (refine still_on (by rfl) (fun K hK => ?_); go_simp; refine hK _ ?_; clear hK K)
    refine still_join (σ := Value × Value × Value × Value × Value) 6 (fun s => [(57, s.1), (58, s.2.1), (59, s.2.2.1), (60, s.2.2.2.1), (61, s.2.2.2.2), (62, .bool z7)]) (fun Q' hQ' => ?_) (fun s => ?_)
    · simp only [List.take_succ_cons, List.take_zero]
      simp only [Go.Proofs.YthphhogljniofaaDoorW.PrintLast.putAll, Act.put, List.setIfInBounds_toArray, List.set_cons_zero, List.set_cons_succ, Prod.forall] at hQ'
      clear hQ1
      rcases Bool.eq_false_or_eq_true z6 with hb | hb
      · rw [hb, Bool.true_and] at hz7
        rw [← hz7] at hQ'
        simp only [hb] at hQ'
        clear hz7 HZ
        refine still_on (by first | rfl | (show (some z6 == some true) = true; rw [hb]; rfl)) (fun K hK => ?_); go_simp; refine hK _ ?_; clear hK K
        refine still_on (by first | rfl | (show (some z6 == some true) = true; rw [hb]; rfl)) (fun K hK => ?_); go_simp; refine hK _ ?_; clear hK K
        refine still_on (by first | rfl | (show (some z6 == some true) = true; rw [hb]; rfl)) (fun K hK => ?_); go_simp; refine hK _ ?_; clear hK K
        refine still_on (by first | rfl | (show (some z6 == some true) = true; rw [hb]; rfl)) (fun K hK => ?_); go_simp; refine hK _ ?_; clear hK K
        refine still_on (by first | rfl | (show (some z6 == some true) = true; rw [hb]; rfl)) (fun K hK => ?_); go_simp; refine hK _ ?_; clear hK K
        (refine still_on (by rfl) (fun K hK => ?_); go_simp; refine hK _ ?_; clear hK K)
        exact wpStill_nil (hQ' _ _ _ _ _)
      · rw [hb, Bool.false_and] at hz7
        rw [← hz7] at hQ'
        simp only [hb] at hQ'
        clear hz7 HZ
        iterate 5 (refine still_off (by first | rfl | (show (some z6 == some true) = false; rw [hb]; rfl)) ?_; simp only [Act.put, List.setIfInBounds_toArray, List.set_cons_zero, List.set_cons_succ])
        (refine still_on (by rfl) (fun K hK => ?_); go_simp; refine hK _ ?_; clear hK K)
        exact wpStill_nil (hQ' _ _ _ _ _)
    obtain ⟨t57, t58, t59, t60, t61⟩ := s
    simp only [List.drop_succ_cons, List.drop_zero, Go.Proofs.YthphhogljniofaaDoorW.PrintLast.putAll, Act.put, List.setIfInBounds_toArray, List.set_cons_zero, List.set_cons_succ]
    iterate 1 (refine still_on (by rfl) (fun K hK => ?_); go_simp; refine hK _ ?_; clear hK K)
    refine still_join (σ := Value × Value × Value × Value × Value) 6 (fun s => [(64, s.1), (65, s.2.1), (66, s.2.2.1), (67, s.2.2.2.1), (68, s.2.2.2.2), (69, .bool z8)]) (fun Q' hQ' => ?_) (fun s => ?_)
    · simp only [List.take_succ_cons, List.take_zero]
      simp only [Go.Proofs.YthphhogljniofaaDoorW.PrintLast.putAll, Act.put, List.setIfInBounds_toArray, List.set_cons_zero, List.set_cons_succ, Prod.forall] at hQ'
      clear hQ1
      rcases Bool.eq_false_or_eq_true z7 with hb | hb
      · rw [hb, Bool.true_and] at hz8
        rw [← hz8] at hQ'
        simp only [hb] at hQ'
        clear hz8 HZ
        refine still_on (by first | rfl | (show (some z7 == some true) = true; rw [hb]; rfl)) (fun K hK => ?_); go_simp; refine hK _ ?_; clear hK K
        refine still_on (by first | rfl | (show (some z7 == some true) = true; rw [hb]; rfl)) (fun K hK => ?_); go_simp; refine hK _ ?_; clear hK K
        refine still_on (by first | rfl | (show (some z7 == some true) = true; rw [hb]; rfl)) (fun K hK => ?_); go_simp; refine hK _ ?_; clear hK K
        refine still_on (by first | rfl | (show (some z7 == some true) = true; rw [hb]; rfl)) (fun K hK => ?_); go_simp; refine hK _ ?_; clear hK K
        refine still_on (by first | rfl | (show (some z7 == some true) = true; rw [hb]; rfl)) (fun K hK => ?_); go_simp; refine hK _ ?_; clear hK K
        (refine still_on (by rfl) (fun K hK => ?_); go_simp; refine hK _ ?_; clear hK K)
        exact wpStill_nil (hQ' _ _ _ _ _)
      · rw [hb, Bool.false_and] at hz8
        rw [← hz8] at hQ'
        simp only [hb] at hQ'
        clear hz8 HZ
        iterate 5 (refine still_off (by first | rfl | (show (some z7 == some true) = false; rw [hb]; rfl)) ?_; simp only [Act.put, List.setIfInBounds_toArray, List.set_cons_zero, List.set_cons_succ])
        (refine still_on (by rfl) (fun K hK => ?_); go_simp; refine hK _ ?_; clear hK K)
        exact wpStill_nil (hQ' _ _ _ _ _)
    obtain ⟨t64, t65, t66, t67, t68⟩ := s
    simp only [List.drop_succ_cons, List.drop_zero, Go.Proofs.YthphhogljniofaaDoorW.PrintLast.putAll, Act.put, List.setIfInBounds_toArray, List.set_cons_zero, List.set_cons_succ]
    iterate 9 (refine still_on (by rfl) (fun K hK => ?_); go_simp; refine hK _ ?_; clear hK K)
    refine wpStill_nil (hQ1 _ ?_)
    clear hQ1 Q1
    change wpList _ _ _ _ _ wA.drew
    clear p0 q0 p1 q1 p2 q2 p3 q3 p4 q4 p5 q5 p6 q6 p7 q7 p8 q8 p9 q9 p10 q10 p11 q11
    have HTd := Lib.hid (HT.out.below (show Below wA.heap.size wA wA.drew from below_drew1 (Below.refl _ _)))
    generalize wA.drew = wd at HTd ⊢
    simp only [List.append_eq, List.cons_append, List.nil_append, List.drop_succ_cons, List.drop_zero]
    go_wp2_with (first | (go_at_call 23; refine (first3_any ⟨_, _⟩ ⟨_, _⟩ ⟨_, _⟩ wd.heap.size _ _ (by exact blk_new wd _)).mono ?_; rintro e w1 ⟨rfl, hb1⟩; have HT1 := Lib.hid ((HTd.out.below (below_alloc (Below.refl _ _) _)).below hb1); clear hb1))
    go_meet
    case rel => exact ⟨by rw [HZ.out], HT1⟩
  case rest =>
    obtain ⟨rfl, HT5⟩ := hcut
    clear HT
    obtain ⟨h, hh⟩ : ∃ h, h = headR a b := ⟨_, rfl⟩
    rw [← hh]
    have HH := Lib.hid hh
    clear hh
    by_cases he : h = ⟨#[]⟩
    · skip
      have he0 : (h.toList == ([] : List UInt8)) = true := beq_iff_eq.2 (ba_niL.2 he)
      have he1 : h.toList.isEmpty = true := List.isEmpty_iff.2 (ba_niL.2 he)
      have he2 : (h.toList != ([] : List UInt8)) = false := bne_eq_false_iff_eq.2 (ba_niL.2 he)
      have HN := Lib.hid (headR_nil (HH.out.symm.trans he))
      have HHE := Lib.hid he
      clear he
      have hlen : (b.L.length : Int) = (a.L.length : Int) := by have := HN.out.2.2; omega
      have p10 := blk_cell HT5.out.1 10
      simp only [List.getElem?_toArray, List.getElem?_cons_succ, List.getElem?_cons_zero] at p10
      go_wp2
      clear p10 he0 he1 he2
      go_loopw [87] (fun i wr => ∃ k : Nat, k ≤ a.L.length ∧ i = .int .i64 k ∧ Hid (DSt w wr #[.bool a.big, .bool a.wide, .int .u8 a.abi, .int .u8 a.ver, .string a.pad, .int .u64 a.ty, .int .u64 a.mc, .int .u64 a.en, .int .u64 a.fg, .int .u64 a.nm, .slice A9 a.L.length c9, .slice A10 a.D.length c10] #[.bool b.big, .bool b.wide, .int .u8 b.abi, .int .u8 b.ver, .string b.pad, .int .u64 b.ty, .int .u64 b.mc, .int .u64 b.en, .int .u64 b.fg, .int .u64 b.nm, .slice B9 b.L.length d9, .slice B10 b.D.length d10] ∧ secsR 0 a.L b.L = secsR k (a.L.drop k) (b.L.drop k))) (fun i _ => a.L.length - (intOf i).toNat)
      case atStart => exact ⟨0, Nat.zero_le _, rfl, Lib.hid ⟨HT5.out, rfl⟩⟩
      case round =>
        obtain ⟨k, hk1, rfl, HR⟩ := hrel
        clear HT5
        by_cases hlt : k < a.L.length
        · obtain ⟨ad, A0, a0, A1, a1, A2, a2, hA, o0, o1, o2, o3, o4, o5, o6, o7, o8, o9, o10, o11, o12, l0, g0, l1, g1, l2, g2⟩ := at_T58 HA9.out (k : Int) (by omega) (by omega)
          obtain ⟨bd, B0, b0, B1, b1, B2, b2, hB, n0, n1, n2, n3, n4, n5, n6, n7, n8, n9, n10, n11, n12, m0, j0, m1, j1, m2, j2⟩ := at_T58 HB9.out (k : Int) (by omega) (by omega)
          subst hA
          subst hB
          rw [Int.toNat_natCast] at o0 o1 o2 o3 o4 o5 o6 o7 o8 o9 o10 o11 o12 n0 n1 n2 n3 n4 n5 n6 n7 n8 n9 n10 n11 n12
          obtain ⟨x, hxe⟩ : ∃ x, x = rd_T58 a.L (k : Int) := ⟨_, rfl⟩
          obtain ⟨y, hye⟩ : ∃ y, y = rd_T58 b.L (k : Int) := ⟨_, rfl⟩
          have hbl : k < b.L.length := by omega
          have HX := Lib.hid (show a.L[k] = x by rw [hxe]; unfold rd_T58; rw [Int.toNat_natCast]; simp [List.getD, hlt])
          have HY := Lib.hid (show b.L[k] = y by rw [hye]; unfold rd_T58; rw [Int.toNat_natCast]; simp [List.getD, hbl])
          rw [← hxe] at o0 o1 o2 o3 o4 o5 o6 o7 o8 o9 o10 o11 o12 l0 g0 l1 g1 l2 g2
          rw [← hye] at n0 n1 n2 n3 n4 n5 n6 n7 n8 n9 n10 n11 n12 m0 j0 m1 j1 m2 j2
          clear hxe hye
          have HG := Lib.hid (fun W (hb : Below w.heap.size w W) => where_any x y A0 A1 A2 B0 B1 B2 a0 a1 a2 b0 b1 b2 W l0 (Kd.C_below g0 hb) l1 (Kd.C_below g1 hb) l2 (Kd.C_below g2 hb) m0 (Kd.C_below j0 hb) m1 (Kd.C_below j1 hb) m2 (Kd.C_below j2 hb))
          clear l0 g0 l1 g1 l2 g2 m0 j0 m1 j1 m2 j2
          have p0 := (HR.out.1.2.2.cell (World.block_lt_of_cell? w _ o0)).trans o0
          have p1 := (HR.out.1.2.2.cell (World.block_lt_of_cell? w _ o1)).trans o1
          have p2 := (HR.out.1.2.2.cell (World.block_lt_of_cell? w _ o2)).trans o2
          have p3 := (HR.out.1.2.2.cell (World.block_lt_of_cell? w _ o3)).trans o3
          have p4 := (HR.out.1.2.2.cell (World.block_lt_of_cell? w _ o4)).trans o4
          have p5 := (HR.out.1.2.2.cell (World.block_lt_of_cell? w _ o5)).trans o5
          have p6 := (HR.out.1.2.2.cell (World.block_lt_of_cell? w _ o6)).trans o6
          have p7 := (HR.out.1.2.2.cell (World.block_lt_of_cell? w _ o7)).trans o7
          have p8 := (HR.out.1.2.2.cell (World.block_lt_of_cell? w _ o8)).trans o8
          have p9 := (HR.out.1.2.2.cell (World.block_lt_of_cell? w _ o9)).trans o9
          have p10 := (HR.out.1.2.2.cell (World.block_lt_of_cell? w _ o10)).trans o10
          have p11 := (HR.out.1.2.2.cell (World.block_lt_of_cell? w _ o11)).trans o11
          have p12 := (HR.out.1.2.2.cell (World.block_lt_of_cell? w _ o12)).trans o12
          clear o0 o1 o2 o3 o4 o5 o6 o7 o8 o9 o10 o11 o12
          have r10 := blk_cell HR.out.1.1 10
          simp only [List.getElem?_toArray, List.getElem?_cons_succ, List.getElem?_cons_zero] at r10
          go_upto_region 7 with (fail)
          clear r10 p0 p1 p2 p3 p4 p5 p6 p7 p8 p9 p10 p11 p12
          obtain ⟨wX, hwX⟩ : ∃ wX, wX = wr.alloc (.cells #[.string x.f0, .int .u64 x.f1, .int .u64 x.f2, .int .u64 x.f3, .int .u64 x.f4, .int .u64 x.f5, .int .u64 x.f6, .int .u64 x.f7, .int .u64 x.f8, .string x.f9, .slice A0 x.f10.length a0, .slice A1 x.f11.length a1, .slice A2 x.f12.length a2] 58) := ⟨_, rfl⟩
          have HTX := Lib.hid (show DSt w wX _ _ from by rw [hwX]; exact HR.out.1.below (below_alloc (Below.refl _ _) _))
          have HXX := Lib.hid (show wX.heap[wr.heap.size]? = some (.cells #[.string x.f0, .int .u64 x.f1, .int .u64 x.f2, .int .u64 x.f3, .int .u64 x.f4, .int .u64 x.f5, .int .u64 x.f6, .int .u64 x.f7, .int .u64 x.f8, .string x.f9, .slice A0 x.f10.length a0, .slice A1 x.f11.length a1, .slice A2 x.f12.length a2] 58 (0, 0)) by rw [hwX]; exact blk_new wr _)
          rw [← hwX]
          clear hwX
          obtain ⟨gx, hgx⟩ : ∃ gx, gx = wr.heap.size := ⟨_, rfl⟩
          rw [← hgx] at HXX ⊢
          clear hgx
          have HTd := Lib.hid (HTX.out.below (show Below wX.heap.size wX wX.drew from below_drew1 (Below.refl _ _)))
          have HXd := Lib.hid (blk_drew HXX.out)
          have HEQ := Lib.hid HR.out.2
          clear HTX HXX HR
          have n0d := (HTd.out.2.2.cell (World.block_lt_of_cell? w _ n0)).trans n0
          have n1d := (HTd.out.2.2.cell (World.block_lt_of_cell? w _ n1)).trans n1
          have n2d := (HTd.out.2.2.cell (World.block_lt_of_cell? w _ n2)).trans n2
          have n3d := (HTd.out.2.2.cell (World.block_lt_of_cell? w _ n3)).trans n3
          have n4d := (HTd.out.2.2.cell (World.block_lt_of_cell? w _ n4)).trans n4
          have n5d := (HTd.out.2.2.cell (World.block_lt_of_cell? w _ n5)).trans n5
          have n6d := (HTd.out.2.2.cell (World.block_lt_of_cell? w _ n6)).trans n6
          have n7d := (HTd.out.2.2.cell (World.block_lt_of_cell? w _ n7)).trans n7
          have n8d := (HTd.out.2.2.cell (World.block_lt_of_cell? w _ n8)).trans n8
          have n9d := (HTd.out.2.2.cell (World.block_lt_of_cell? w _ n9)).trans n9
          have n10d := (HTd.out.2.2.cell (World.block_lt_of_cell? w _ n10)).trans n10
          have n11d := (HTd.out.2.2.cell (World.block_lt_of_cell? w _ n11)).trans n11
          have n12d := (HTd.out.2.2.cell (World.block_lt_of_cell? w _ n12)).trans n12
          skip
          refine start_ (n := 8) (S := fun w' => w'.cell? ⟨gx, 0, none⟩ = some (.string x.f0) ∧ w'.cell? ⟨gx, 1, none⟩ = some (.int .u64 x.f1) ∧ w'.cell? ⟨gx, 2, none⟩ = some (.int .u64 x.f2) ∧ w'.cell? ⟨gx, 3, none⟩ = some (.int .u64 x.f3) ∧ w'.cell? ⟨gx, 4, none⟩ = some (.int .u64 x.f4) ∧ w'.cell? ⟨gx, 5, none⟩ = some (.int .u64 x.f5) ∧ w'.cell? ⟨gx, 6, none⟩ = some (.int .u64 x.f6) ∧ w'.cell? ⟨gx, 7, none⟩ = some (.int .u64 x.f7) ∧ w'.cell? ⟨gx, 8, none⟩ = some (.int .u64 x.f8) ∧ w'.cell? ⟨gx, 9, none⟩ = some (.string x.f9) ∧ w'.cell? ⟨gx, 10, none⟩ = some (.slice A0 x.f10.length a0) ∧ w'.cell? ⟨gx, 11, none⟩ = some (.slice A1 x.f11.length a1) ∧ w'.cell? ⟨gx, 12, none⟩ = some (.slice A2 x.f12.length a2) ∧ w'.cell? ⟨w.heap.size + 1, 10, none⟩ = some (.slice (some bd) b.L.length d9) ∧ w'.cell? (bd.add (k * 13)) = some (.string y.f0) ∧ w'.cell? ⟨(bd.add (k * 13)).block, (bd.add (k * 13)).off + 1, none⟩ = some (.int .u64 y.f1) ∧ w'.cell? ⟨(bd.add (k * 13)).block, (bd.add (k * 13)).off + 2, none⟩ = some (.int .u64 y.f2) ∧ w'.cell? ⟨(bd.add (k * 13)).block, (bd.add (k * 13)).off + 3, none⟩ = some (.int .u64 y.f3) ∧ w'.cell? ⟨(bd.add (k * 13)).block, (bd.add (k * 13)).off + 4, none⟩ = some (.int .u64 y.f4) ∧ w'.cell? ⟨(bd.add (k * 13)).block, (bd.add (k * 13)).off + 5, none⟩ = some (.int .u64 y.f5) ∧ w'.cell? ⟨(bd.add (k * 13)).block, (bd.add (k * 13)).off + 6, none⟩ = some (.int .u64 y.f6) ∧ w'.cell? ⟨(bd.add (k * 13)).block, (bd.add (k * 13)).off + 7, none⟩ = some (.int .u64 y.f7) ∧ w'.cell? ⟨(bd.add (k * 13)).block, (bd.add (k * 13)).off + 8, none⟩ = some (.int .u64 y.f8) ∧ w'.cell? ⟨(bd.add (k * 13)).block, (bd.add (k * 13)).off + 9, none⟩ = some (.string y.f9) ∧ w'.cell? ⟨(bd.add (k * 13)).block, (bd.add (k * 13)).off + 10, none⟩ = some (.slice B0 y.f10.length b0) ∧ w'.cell? ⟨(bd.add (k * 13)).block, (bd.add (k * 13)).off + 11, none⟩ = some (.slice B1 y.f11.length b1) ∧ w'.cell? ⟨(bd.add (k * 13)).block, (bd.add (k * 13)).off + 12, none⟩ = some (.slice B2 y.f12.length b2)) (ds := []) #[false, false, false, false, false, false, false, false] (by kernel_rfl) (by rfl) (by rfl) ⟨blk_cell HXd.out 0, blk_cell HXd.out 1, blk_cell HXd.out 2, blk_cell HXd.out 3, blk_cell HXd.out 4, blk_cell HXd.out 5, blk_cell HXd.out 6, blk_cell HXd.out 7, blk_cell HXd.out 8, blk_cell HXd.out 9, blk_cell HXd.out 10, blk_cell HXd.out 11, blk_cell HXd.out 12, blk_cell HTd.out.2.1 10, n0d, n1d, n2d, n3d, n4d, n5d, n6d, n7d, n8d, n9d, n10d, n11d, n12d⟩ (fun hHeld => ?_)
          generalize wX.drew = wd at HTd HXd n0d n1d n2d n3d n4d n5d n6d n7d n8d n9d n10d n11d n12d hHeld ⊢
          refine pure_ (i := 1) (N := some 93) (v := ?_) (a' := ?_) #[false, true, false, false, false, false, false, false] rfl rfl (by kernel_rfl) (fun _ _ _ h => h) (Or.inl ⟨by rfl, ?_⟩) ?_ ?_
          rotate_left
          · intro w'
            go_simp
            with_reducible rfl
          rotate_left
          · simp only [Act.put, List.setIfInBounds_toArray, List.set_cons_zero, List.set_cons_succ]
            rfl
          refine pure_ (i := 3) (N := some 95) (v := ?_) (a' := ?_) #[false, true, false, true, false, false, false, false] rfl rfl (by kernel_rfl) (fun _ _ _ h => h) (Or.inl ⟨by rfl, ?_⟩) ?_ ?_
          rotate_left
          · intro w'
            go_simp
            with_reducible rfl
          rotate_left
          · simp only [Act.put, List.setIfInBounds_toArray, List.set_cons_zero, List.set_cons_succ]
            rfl
          refine take_ (i := 0) (N := some 92) (v := ?_) (a' := ?_) #[true, true, false, true, false, false, false, false] rfl rfl (by kernel_rfl) (fun _ _ _ h => h) (Or.inl ⟨by rfl, ?_⟩) hHeld ?_ ?_
          rotate_left
          · rintro w' ⟨s0, s1, s2, s3, s4, s5, s6, s7, s8, s9, s10, s11, s12, s13, s14, s15, s16, s17, s18, s19, s20, s21, s22, s23, s24, s25, s26⟩
            go_simp
            with_reducible rfl
          rotate_left
          · simp only [Act.put, List.setIfInBounds_toArray, List.set_cons_zero, List.set_cons_succ]
            rfl
          refine take_ (i := 2) (N := some 94) (v := ?_) (a' := ?_) #[true, true, true, true, false, false, false, false] rfl rfl (by kernel_rfl) (fun _ _ _ h => h) (Or.inl ⟨by rfl, ?_⟩) hHeld ?_ ?_
          rotate_left
          · rintro w' ⟨s0, s1, s2, s3, s4, s5, s6, s7, s8, s9, s10, s11, s12, s13, s14, s15, s16, s17, s18, s19, s20, s21, s22, s23, s24, s25, s26⟩
            go_simp
            with_reducible rfl
          rotate_left
          · simp only [Act.put, List.setIfInBounds_toArray, List.set_cons_zero, List.set_cons_succ]
            rfl
          refine pure_ (i := 4) (N := some 96) (v := ?_) (a' := ?_) #[true, true, true, true, true, false, false, false] rfl rfl (by kernel_rfl) (fun _ _ _ h => h) (Or.inl ⟨by rfl, ?_⟩) ?_ ?_
          rotate_left
          · intro w'
            go_simp
            with_reducible rfl
          rotate_left
          · simp only [Act.put, List.setIfInBounds_toArray, List.set_cons_zero, List.set_cons_succ]
            rfl
          refine take_ (i := 5) (N := some 97) (v := ?_) (a' := ?_) #[true, true, true, true, true, true, false, false] rfl rfl (by kernel_rfl) (fun _ _ _ h => h) (Or.inl ⟨by rfl, ?_⟩) hHeld ?_ ?_
          rotate_left
          · rintro w' ⟨s0, s1, s2, s3, s4, s5, s6, s7, s8, s9, s10, s11, s12, s13, s14, s15, s16, s17, s18, s19, s20, s21, s22, s23, s24, s25, s26⟩
            go_simp
            with_reducible rfl
          rotate_left
          · simp only [Act.put, List.setIfInBounds_toArray, List.set_cons_zero, List.set_cons_succ]
            rfl
          refine one_ (i := 6) (N := some 98) #[true, true, true, true, true, true, true, false] rfl rfl (by kernel_rfl) (by decide) (fun K hK => ?_)
          refine goes_ Tryd.func24 (by kernel_rfl) rfl #[.agg #[.string x.f0, .int .u64 x.f1, .int .u64 x.f2, .int .u64 x.f3, .int .u64 x.f4, .int .u64 x.f5, .int .u64 x.f6, .int .u64 x.f7, .int .u64 x.f8, .string x.f9, .slice A0 x.f10.length a0, .slice A1 x.f11.length a1, .slice A2 x.f12.length a2], .agg #[.string y.f0, .int .u64 y.f1, .int .u64 y.f2, .int .u64 y.f3, .int .u64 y.f4, .int .u64 y.f5, .int .u64 y.f6, .int .u64 y.f7, .int .u64 y.f8, .string y.f9, .slice B0 y.f10.length b0, .slice B1 y.f11.length b1, .slice B2 y.f12.length b2]] (by rfl) rfl rfl (by first | rfl | (simp only [List.map_toArray, List.map_cons, List.map_nil]; rfl)) ?_
          refine (HG.out wd HTd.out.2.2).mono ?_
          rintro e w1 ⟨rfl, hb1⟩
          refine ⟨_, rfl, ?_⟩
          have HT1 := Lib.hid (HTd.out.below hb1)
          refine hK.out _ _ ⟨blk_cell (blk_below HXd.out hb1) 0, blk_cell (blk_below HXd.out hb1) 1, blk_cell (blk_below HXd.out hb1) 2, blk_cell (blk_below HXd.out hb1) 3, blk_cell (blk_below HXd.out hb1) 4, blk_cell (blk_below HXd.out hb1) 5, blk_cell (blk_below HXd.out hb1) 6, blk_cell (blk_below HXd.out hb1) 7, blk_cell (blk_below HXd.out hb1) 8, blk_cell (blk_below HXd.out hb1) 9, blk_cell (blk_below HXd.out hb1) 10, blk_cell (blk_below HXd.out hb1) 11, blk_cell (blk_below HXd.out hb1) 12, blk_cell HT1.out.2.1 10, (hb1.cell (World.block_lt_of_cell? wd _ n0d)).trans n0d, (hb1.cell (World.block_lt_of_cell? wd _ n1d)).trans n1d, (hb1.cell (World.block_lt_of_cell? wd _ n2d)).trans n2d, (hb1.cell (World.block_lt_of_cell? wd _ n3d)).trans n3d, (hb1.cell (World.block_lt_of_cell? wd _ n4d)).trans n4d, (hb1.cell (World.block_lt_of_cell? wd _ n5d)).trans n5d, (hb1.cell (World.block_lt_of_cell? wd _ n6d)).trans n6d, (hb1.cell (World.block_lt_of_cell? wd _ n7d)).trans n7d, (hb1.cell (World.block_lt_of_cell? wd _ n8d)).trans n8d, (hb1.cell (World.block_lt_of_cell? wd _ n9d)).trans n9d, (hb1.cell (World.block_lt_of_cell? wd _ n10d)).trans n10d, (hb1.cell (World.block_lt_of_cell? wd _ n11d)).trans n11d, (hb1.cell (World.block_lt_of_cell? wd _ n12d)).trans n12d⟩ (fun hHeld => ?_)
          clear hK K
          refine norm_ (a' := ?_) ?_ ?_
          rotate_left
          · show Act.put _ (some 98) _ = _
            simp only [Act.put, List.setIfInBounds_toArray, List.set_cons_zero, List.set_cons_succ]
            rfl
          refine pure_ (i := 7) (N := some 8) (v := ?_) (a' := ?_) #[true, true, true, true, true, true, true, true] rfl rfl (by kernel_rfl) (fun _ _ _ h => h) (Or.inl ⟨by rfl, ?_⟩) ?_ ?_
          rotate_left
          · intro w'
            go_simp
            with_reducible rfl
          rotate_left
          · simp only [Act.put, List.setIfInBounds_toArray, List.set_cons_zero, List.set_cons_succ]
            rfl
          refine done_ (by kernel_rfl) ?_
          clear n0d n1d n2d n3d n4d n5d n6d n7d n8d n9d n10d n11d n12d hHeld hb1
          obtain ⟨d, hd1⟩ : ∃ d, d = whereR x y := ⟨_, rfl⟩
          have HD := Lib.hid hd1
          have hds : d.size ≤ 11 := by rw [hd1]; exact whereR_size x y
          rw [← hd1]
          clear hd1
          have HST := Lib.hid (show secsR k (a.L.drop k) (b.L.drop k) = if d = ⟨#[]⟩ then secsR (k + 1) (a.L.drop (k + 1)) (b.L.drop (k + 1)) else (((⟨#[115, 101, 99, 116, 105, 111, 110, 32]⟩ : ByteArray) ++ itoaR k) ++ (⟨#[32]⟩ : ByteArray)) ++ d by
            rw [List.drop_eq_getElem_cons hlt, List.drop_eq_getElem_cons hbl, HX.out, HY.out, HD.out]; rfl)
          by_cases hde : d = ⟨#[]⟩
          · skip
            have hde0 : (d.toList == ([] : List UInt8)) = true := beq_iff_eq.2 (ba_niL.2 hde)
            have hde1 : d.toList.isEmpty = true := List.isEmpty_iff.2 (ba_niL.2 hde)
            have hde2 : (d.toList != ([] : List UInt8)) = false := bne_eq_false_iff_eq.2 (ba_niL.2 hde)
            have HDE := Lib.hid hde
            clear hde
            go_wp2
            clear hde0 hde1 hde2
            go_roundw
            case rel => exact ⟨k + 1, by omega, by go_num, Lib.hid ⟨HT1.out, by rw [HEQ.out, HST.out, if_pos HDE.out]⟩⟩
            case measure => simp [intOf]; omega
          · skip
            have hde0 : (d.toList == ([] : List UInt8)) = false := beq_eq_false_iff_ne.2 (fun h => hde (ba_niL.1 h))
            have hde1 : d.toList.isEmpty = false := Bool.eq_false_iff.2 (fun h => hde (ba_niL.1 (List.isEmpty_iff.1 h)))
            have hde2 : (d.toList != ([] : List UInt8)) = true := bne_iff_ne.2 (fun h => hde (ba_niL.1 h))
            have HDE := Lib.hid hde
            clear hde
            obtain ⟨t, ht⟩ : ∃ t, t = itoaR k := ⟨_, rfl⟩
            have hts : t.size ≤ 2 := by rw [ht]; exact itoaR_size k
            have HIT := Lib.hid (fun W => itoa_any k (by omega) W)
            rw [← ht] at HIT HST
            have HTT := Lib.hid ht
            clear ht
            have z8 : (⟨#[115, 101, 99, 116, 105, 111, 110, 32]⟩ : ByteArray).size = 8 := rfl
            have z1 : (⟨#[32]⟩ : ByteArray).size = 1 := rfl
            have sa0 := eq_true (show 8 + t.size ≤ 9223372036854775807 by (try simp only [ByteArray.size_append, z8, z1]); omega)
            have sb0 : decide (8 + t.size ≤ 9223372036854775807) = true := decide_eq_true (by (try simp only [ByteArray.size_append, z8, z1]); omega)
            have sc0 := eq_false (show ¬ 9223372036854775807 < 8 + t.size by (try simp only [ByteArray.size_append, z8, z1]); omega)
            have sa1 := eq_true (show (((⟨#[115, 101, 99, 116, 105, 111, 110, 32]⟩ : ByteArray)) ++ t).size + 1 ≤ 9223372036854775807 by (try simp only [ByteArray.size_append, z8, z1]); omega)
            have sb1 : decide ((((⟨#[115, 101, 99, 116, 105, 111, 110, 32]⟩ : ByteArray)) ++ t).size + 1 ≤ 9223372036854775807) = true := decide_eq_true (by (try simp only [ByteArray.size_append, z8, z1]); omega)
            have sc1 := eq_false (show ¬ 9223372036854775807 < (((⟨#[115, 101, 99, 116, 105, 111, 110, 32]⟩ : ByteArray)) ++ t).size + 1 by (try simp only [ByteArray.size_append, z8, z1]); omega)
            have sa2 := eq_true (show ((((⟨#[115, 101, 99, 116, 105, 111, 110, 32]⟩ : ByteArray)) ++ t) ++ (⟨#[32]⟩ : ByteArray)).size + d.size ≤ 9223372036854775807 by (try simp only [ByteArray.size_append, z8, z1]); omega)
            have sb2 : decide (((((⟨#[115, 101, 99, 116, 105, 111, 110, 32]⟩ : ByteArray)) ++ t) ++ (⟨#[32]⟩ : ByteArray)).size + d.size ≤ 9223372036854775807) = true := decide_eq_true (by (try simp only [ByteArray.size_append, z8, z1]); omega)
            have sc2 := eq_false (show ¬ 9223372036854775807 < ((((⟨#[115, 101, 99, 116, 105, 111, 110, 32]⟩ : ByteArray)) ++ t) ++ (⟨#[32]⟩ : ByteArray)).size + d.size by (try simp only [ByteArray.size_append, z8, z1]); omega)
            go_wp2_with (first | (go_at_call 25; refine (HIT.out _).mono ?_; rintro e w2 ⟨rfl, rfl⟩))
            go_ret
            refine ⟨?_, HT1.out.2.2⟩
            have hsx : secsR 0 a.L b.L = (((⟨#[115, 101, 99, 116, 105, 111, 110, 32]⟩ : ByteArray) ++ t) ++ (⟨#[32]⟩ : ByteArray)) ++ d := by rw [HEQ.out, HST.out, if_neg HDE.out]
            have hne : secsR 0 a.L b.L ≠ ⟨#[]⟩ := by
              rw [hsx]
              intro h0
              have h1 := congrArg ByteArray.size h0
              simp only [ByteArray.size_append, z8, z1] at h1
              have z0 : (⟨#[]⟩ : ByteArray).size = 0 := rfl
              omega
            unfold diffR
            rw [if_neg (by rw [← HH.out]; exact fun h => h HHE.out), if_pos hne, hsx]
            rfl
        · skip
          have HS0 := Lib.hid (show secsR 0 a.L b.L = ⟨#[]⟩ by rw [HR.out.2, List.drop_eq_nil_of_le (by omega)]; exact secsR_nil _ _)
          have HT6 := Lib.hid HR.out.1
          clear HR
          have r11 := blk_cell HT6.out.1 11
          have s11 := blk_cell HT6.out.2.1 11
          simp only [List.getElem?_toArray, List.getElem?_cons_succ, List.getElem?_cons_zero] at r11 s11
          by_cases hD : a.D.length = b.D.length
          · have e0 : ((a.D.length : Int) != (b.D.length : Int)) = false := bne_eq_false_iff_eq.2 (by omega)
            have HDL := Lib.hid hD
            go_wp2
            clear r11 s11 e0
            go_loopw [118] (fun i wr => ∃ k : Nat, k ≤ a.D.length ∧ i = .int .i64 k ∧ Hid (DSt w wr #[.bool a.big, .bool a.wide, .int .u8 a.abi, .int .u8 a.ver, .string a.pad, .int .u64 a.ty, .int .u64 a.mc, .int .u64 a.en, .int .u64 a.fg, .int .u64 a.nm, .slice A9 a.L.length c9, .slice A10 a.D.length c10] #[.bool b.big, .bool b.wide, .int .u8 b.abi, .int .u8 b.ver, .string b.pad, .int .u64 b.ty, .int .u64 b.mc, .int .u64 b.en, .int .u64 b.fg, .int .u64 b.nm, .slice B9 b.L.length d9, .slice B10 b.D.length d10] ∧ segsDR 0 a.D b.D = segsDR k (a.D.drop k) (b.D.drop k))) (fun i _ => a.D.length - (intOf i).toNat)
            case atStart => exact ⟨0, Nat.zero_le _, rfl, Lib.hid ⟨HT6.out, rfl⟩⟩
            case round =>
              obtain ⟨j, hj1, rfl, HR⟩ := hrel
              clear HT6
              by_cases hlj : j < a.D.length
              · obtain ⟨ad, hA, o0, o1, o2, o3, o4, o5, o6⟩ := at_T65 HA10.out (j : Int) (by omega) (by omega)
                obtain ⟨bd, hB, n0, n1, n2, n3, n4, n5, n6⟩ := at_T65 HB10.out (j : Int) (by omega) (by omega)
                subst hA
                subst hB
                rw [Int.toNat_natCast] at o0 o1 o2 o3 o4 o5 o6 n0 n1 n2 n3 n4 n5 n6
                obtain ⟨x, hxe⟩ : ∃ x, x = rd_T65 a.D (j : Int) := ⟨_, rfl⟩
                obtain ⟨y, hye⟩ : ∃ y, y = rd_T65 b.D (j : Int) := ⟨_, rfl⟩
                have hbl : j < b.D.length := by omega
                have HX := Lib.hid (show a.D[j] = x by rw [hxe]; unfold rd_T65; rw [Int.toNat_natCast]; simp [List.getD, hlj])
                have HY := Lib.hid (show b.D[j] = y by rw [hye]; unfold rd_T65; rw [Int.toNat_natCast]; simp [List.getD, hbl])
                rw [← hxe] at o0 o1 o2 o3 o4 o5 o6
                rw [← hye] at n0 n1 n2 n3 n4 n5 n6
                clear hxe hye
                have p0 := (HR.out.1.2.2.cell (World.block_lt_of_cell? w _ o0)).trans o0
                have p1 := (HR.out.1.2.2.cell (World.block_lt_of_cell? w _ o1)).trans o1
                have p2 := (HR.out.1.2.2.cell (World.block_lt_of_cell? w _ o2)).trans o2
                have p3 := (HR.out.1.2.2.cell (World.block_lt_of_cell? w _ o3)).trans o3
                have p4 := (HR.out.1.2.2.cell (World.block_lt_of_cell? w _ o4)).trans o4
                have p5 := (HR.out.1.2.2.cell (World.block_lt_of_cell? w _ o5)).trans o5
                have p6 := (HR.out.1.2.2.cell (World.block_lt_of_cell? w _ o6)).trans o6
                clear o0 o1 o2 o3 o4 o5 o6
                have r11 := blk_cell HR.out.1.1 11
                simp only [List.getElem?_toArray, List.getElem?_cons_succ, List.getElem?_cons_zero] at r11
                go_upto_region 16 with (fail)
                clear r11 p0 p1 p2 p3 p4 p5 p6
                obtain ⟨wX, hwX⟩ : ∃ wX, wX = wr.alloc (.cells #[.int .u64 x.f0, .int .u64 x.f1, .int .u64 x.f2, .int .u64 x.f3, .int .u64 x.f4, .int .u64 x.f5, .string x.f6] 65) := ⟨_, rfl⟩
                have HTX := Lib.hid (show DSt w wX _ _ from by rw [hwX]; exact HR.out.1.below (below_alloc (Below.refl _ _) _))
                have HXX := Lib.hid (show wX.heap[wr.heap.size]? = some (.cells #[.int .u64 x.f0, .int .u64 x.f1, .int .u64 x.f2, .int .u64 x.f3, .int .u64 x.f4, .int .u64 x.f5, .string x.f6] 65 (0, 0)) by rw [hwX]; exact blk_new wr _)
                rw [← hwX]
                clear hwX
                obtain ⟨gx, hgx⟩ : ∃ gx, gx = wr.heap.size := ⟨_, rfl⟩
                rw [← hgx] at HXX ⊢
                clear hgx
                have HTd := Lib.hid (HTX.out.below (show Below wX.heap.size wX wX.drew from below_drew1 (Below.refl _ _)))
                have HXd := Lib.hid (blk_drew HXX.out)
                have HEQ := Lib.hid HR.out.2
                clear HTX HXX HR
                obtain ⟨nb, hnb⟩ : ∃ nb : Bool, (!(x.f0 == y.f0) || (!(x.f1 == y.f1) || (!(x.f2 == y.f2) || (!(x.f3 == y.f3) || (!(x.f4 == y.f4) || (!(x.f5 == y.f5) || (!(x.f6.toList == y.f6.toList)))))))) = nb := ⟨_, rfl⟩
                have n0d := (HTd.out.2.2.cell (World.block_lt_of_cell? w _ n0)).trans n0
                have n1d := (HTd.out.2.2.cell (World.block_lt_of_cell? w _ n1)).trans n1
                have n2d := (HTd.out.2.2.cell (World.block_lt_of_cell? w _ n2)).trans n2
                have n3d := (HTd.out.2.2.cell (World.block_lt_of_cell? w _ n3)).trans n3
                have n4d := (HTd.out.2.2.cell (World.block_lt_of_cell? w _ n4)).trans n4
                have n5d := (HTd.out.2.2.cell (World.block_lt_of_cell? w _ n5)).trans n5
                have n6d := (HTd.out.2.2.cell (World.block_lt_of_cell? w _ n6)).trans n6
                refine start_ (n := 7) (S := fun w' => w'.cell? ⟨gx, 0, none⟩ = some (.int .u64 x.f0) ∧ w'.cell? ⟨gx, 1, none⟩ = some (.int .u64 x.f1) ∧ w'.cell? ⟨gx, 2, none⟩ = some (.int .u64 x.f2) ∧ w'.cell? ⟨gx, 3, none⟩ = some (.int .u64 x.f3) ∧ w'.cell? ⟨gx, 4, none⟩ = some (.int .u64 x.f4) ∧ w'.cell? ⟨gx, 5, none⟩ = some (.int .u64 x.f5) ∧ w'.cell? ⟨gx, 6, none⟩ = some (.string x.f6) ∧ w'.cell? ⟨w.heap.size + 1, 11, none⟩ = some (.slice (some bd) b.D.length d10) ∧ w'.cell? (bd.add (j * 7)) = some (.int .u64 y.f0) ∧ w'.cell? ⟨(bd.add (j * 7)).block, (bd.add (j * 7)).off + 1, none⟩ = some (.int .u64 y.f1) ∧ w'.cell? ⟨(bd.add (j * 7)).block, (bd.add (j * 7)).off + 2, none⟩ = some (.int .u64 y.f2) ∧ w'.cell? ⟨(bd.add (j * 7)).block, (bd.add (j * 7)).off + 3, none⟩ = some (.int .u64 y.f3) ∧ w'.cell? ⟨(bd.add (j * 7)).block, (bd.add (j * 7)).off + 4, none⟩ = some (.int .u64 y.f4) ∧ w'.cell? ⟨(bd.add (j * 7)).block, (bd.add (j * 7)).off + 5, none⟩ = some (.int .u64 y.f5) ∧ w'.cell? ⟨(bd.add (j * 7)).block, (bd.add (j * 7)).off + 6, none⟩ = some (.string y.f6)) (ds := []) #[false, false, false, false, false, false, false] (by kernel_rfl) (by rfl) (by rfl) ⟨blk_cell HXd.out 0, blk_cell HXd.out 1, blk_cell HXd.out 2, blk_cell HXd.out 3, blk_cell HXd.out 4, blk_cell HXd.out 5, blk_cell HXd.out 6, blk_cell HTd.out.2.1 11, n0d, n1d, n2d, n3d, n4d, n5d, n6d⟩ (fun hHeld => ?_)
                generalize wX.drew = wd at HTd HXd n0d n1d n2d n3d n4d n5d n6d hHeld ⊢
                refine pure_ (i := 1) (N := some 124) (v := ?_) (a' := ?_) #[false, true, false, false, false, false, false] rfl rfl (by kernel_rfl) (fun _ _ _ h => h) (Or.inl ⟨by rfl, ?_⟩) ?_ ?_
                rotate_left
                · intro w'
                  go_simp
                  with_reducible rfl
                rotate_left
                · simp only [Act.put, List.setIfInBounds_toArray, List.set_cons_zero, List.set_cons_succ]
                  rfl
                refine pure_ (i := 3) (N := some 126) (v := ?_) (a' := ?_) #[false, true, false, true, false, false, false] rfl rfl (by kernel_rfl) (fun _ _ _ h => h) (Or.inl ⟨by rfl, ?_⟩) ?_ ?_
                rotate_left
                · intro w'
                  go_simp
                  with_reducible rfl
                rotate_left
                · simp only [Act.put, List.setIfInBounds_toArray, List.set_cons_zero, List.set_cons_succ]
                  rfl
                refine take_ (i := 0) (N := some 123) (v := ?_) (a' := ?_) #[true, true, false, true, false, false, false] rfl rfl (by kernel_rfl) (fun _ _ _ h => h) (Or.inl ⟨by rfl, ?_⟩) hHeld ?_ ?_
                rotate_left
                · rintro w' ⟨s0, s1, s2, s3, s4, s5, s6, s7, s8, s9, s10, s11, s12, s13, s14⟩
                  go_simp
                  with_reducible rfl
                rotate_left
                · simp only [Act.put, List.setIfInBounds_toArray, List.set_cons_zero, List.set_cons_succ]
                  rfl
                refine take_ (i := 2) (N := some 125) (v := ?_) (a' := ?_) #[true, true, true, true, false, false, false] rfl rfl (by kernel_rfl) (fun _ _ _ h => h) (Or.inl ⟨by rfl, ?_⟩) hHeld ?_ ?_
                rotate_left
                · rintro w' ⟨s0, s1, s2, s3, s4, s5, s6, s7, s8, s9, s10, s11, s12, s13, s14⟩
                  go_simp
                  with_reducible rfl
                rotate_left
                · simp only [Act.put, List.setIfInBounds_toArray, List.set_cons_zero, List.set_cons_succ]
                  rfl
                refine pure_ (i := 4) (N := some 127) (v := ?_) (a' := ?_) #[true, true, true, true, true, false, false] rfl rfl (by kernel_rfl) (fun _ _ _ h => h) (Or.inl ⟨by rfl, ?_⟩) ?_ ?_
                rotate_left
                · intro w'
                  go_simp
                  with_reducible rfl
                rotate_left
                · simp only [Act.put, List.setIfInBounds_toArray, List.set_cons_zero, List.set_cons_succ]
                  rfl
                refine take_ (i := 5) (N := some 128) (v := ?_) (a' := ?_) #[true, true, true, true, true, true, false] rfl rfl (by kernel_rfl) (fun _ _ _ h => h) (Or.inl ⟨by rfl, ?_⟩) hHeld ?_ ?_
                rotate_left
                · rintro w' ⟨s0, s1, s2, s3, s4, s5, s6, s7, s8, s9, s10, s11, s12, s13, s14⟩
                  go_simp
                  with_reducible rfl
                rotate_left
                · simp only [Act.put, List.setIfInBounds_toArray, List.set_cons_zero, List.set_cons_succ]
                  rfl
                refine pure_ (i := 6) (N := some 129) (v := ?_) (a' := ?_) #[true, true, true, true, true, true, true] rfl rfl (by kernel_rfl) (fun _ _ _ h => h) (Or.inl ⟨by rfl, ?_⟩) ?_ ?_
                rotate_left
                · intro w'
                  go_simp
                  with_reducible rfl
                rotate_left
                · simp only [Act.put, List.setIfInBounds_toArray, List.set_cons_zero, List.set_cons_succ]
                  rfl
                refine done_ (by kernel_rfl) ?_
                clear n0d n1d n2d n3d n4d n5d n6d hHeld
                have HST := Lib.hid (show segsDR j (a.D.drop j) (b.D.drop j) = if eqC x y = true then segsDR (j + 1) (a.D.drop (j + 1)) (b.D.drop (j + 1)) else (⟨#[115, 101, 103, 109, 101, 110, 116, 32]⟩ : ByteArray) ++ itoaR j by
                  rw [List.drop_eq_getElem_cons hlj, List.drop_eq_getElem_cons hbl, HX.out, HY.out]; rfl)
                by_cases hxy : x = y
                · have hnf : nb = false := by rw [← hnb]; exact Bool.eq_false_iff.2 (fun h => (eqG_ne x y).1 h hxy)
                  subst hnf
                  have HXY := Lib.hid hxy
                  clear hxy
                  go_wp2
                  clear hnb
                  go_roundw
                  case rel => exact ⟨j + 1, by omega, by go_num, Lib.hid ⟨HTd.out, by rw [HEQ.out, HST.out, if_pos (eqC_true HXY.out)]⟩⟩
                  case measure => simp [intOf]; omega
                · have hnf : nb = true := by rw [← hnb]; exact (eqG_ne x y).2 hxy
                  subst hnf
                  have HXY := Lib.hid hxy
                  clear hxy
                  obtain ⟨t, ht⟩ : ∃ t, t = itoaR j := ⟨_, rfl⟩
                  have hts : t.size ≤ 2 := by rw [ht]; exact itoaR_size j
                  have HIT := Lib.hid (fun W => itoa_any j (by omega) W)
                  rw [← ht] at HIT HST
                  clear ht
                  have z8 : (⟨#[115, 101, 103, 109, 101, 110, 116, 32]⟩ : ByteArray).size = 8 := rfl
                  have z1 : (⟨#[32]⟩ : ByteArray).size = 1 := rfl
                  have sa0 := eq_true (show 8 + t.size ≤ 9223372036854775807 by (try simp only [ByteArray.size_append, z8, z1]); omega)
                  have sb0 : decide (8 + t.size ≤ 9223372036854775807) = true := decide_eq_true (by (try simp only [ByteArray.size_append, z8, z1]); omega)
                  have sc0 := eq_false (show ¬ 9223372036854775807 < 8 + t.size by (try simp only [ByteArray.size_append, z8, z1]); omega)
                  go_wp2_with (first | (go_at_call 25; refine (HIT.out _).mono ?_; rintro e w2 ⟨rfl, rfl⟩))
                  go_ret
                  refine ⟨?_, HTd.out.2.2⟩
                  unfold diffR
                  rw [if_neg (by rw [← HH.out]; exact fun h => h HHE.out), if_neg (fun h => h HS0.out), if_neg (fun h => h HDL.out), HEQ.out, HST.out, if_neg (fun h => HXY.out (eqC_iff.1 h))]
                  rfl
              · have HE2 := Lib.hid (show segsDR 0 a.D b.D = ⟨#[]⟩ by rw [HR.out.2, List.drop_eq_nil_of_le (by omega)]; exact segsDR_nil _ _)
                go_wp2
                go_ret
                refine ⟨?_, HR.out.1.2.2⟩
                unfold diffR
                rw [if_neg (by rw [← HH.out]; exact fun h => h HHE.out), if_neg (fun h => h HS0.out), if_neg (fun h => h HDL.out), HE2.out]
                rfl
          · have e0 : ((a.D.length : Int) != (b.D.length : Int)) = true := bne_iff_ne.2 (by omega)
            have HDL := Lib.hid hD
            clear hD
            go_wp2
            go_ret
            refine ⟨?_, HT6.out.2.2⟩
            unfold diffR
            rw [if_neg (by rw [← HH.out]; exact fun h => h HHE.out), if_neg (fun h => h HS0.out), if_pos HDL.out]
            rfl
    · skip
      have he0 : (h.toList == ([] : List UInt8)) = false := beq_eq_false_iff_ne.2 (fun h => he (ba_niL.1 h))
      have he1 : h.toList.isEmpty = false := Bool.eq_false_iff.2 (fun h => he (ba_niL.1 (List.isEmpty_iff.1 h)))
      have he2 : (h.toList != ([] : List UInt8)) = true := bne_iff_ne.2 (fun h => he (ba_niL.1 h))
      have HHE := Lib.hid he
      clear he
      go_wp2
      go_ret
      refine ⟨?_, HT5.out.2.2⟩
      unfold diffR
      rw [← HH.out, if_pos HHE.out]
      rfl
end Go.Proofs.YthphhogljniofaaDoor

/- Laws on a region that draws: allocations that no call waits for may come anywhere between the calls. -/
import Derived.Test.YthphhogljniofaaDoorXKdM17D
import Derived.Test.YthphhogljniofaaDoorXKdM17Q
import Derived.Test.YthphhogljniofaaDoorXKdM17X
namespace Go.Proofs.YthphhogljniofaaDoor
set_option linter.unusedVariables false
set_option linter.unusedSimpArgs false
open Go.RowKit Go.Proofs.YthphhogljniofaaDoorW.PrintWords Go.Proofs.YthphhogljniofaaDoorW.PrintLast Go.Proofs.YthphhogljniofaaDoorW.PrintMore

/-- What is done when c of the calls ms are, and of the allocations fs those that b tells. -/
def maskF (n : Nat) (pre ms fs : List Nat) (c : Nat) (b : List Bool) : Array Bool := ((List.range n).map fun i => pre.contains i || (ms.take c).contains i || (fs.zip b).any fun p => p.1 == i && p.2).toArray
def allB : Nat → List (List Bool)
 | 0 => [[]]
 | m + 1 => (allB m).map (false :: ·) ++ (allB m).map (true :: ·)
theorem mem_allB : ∀ b : List Bool, b ∈ allB b.length
 | [] => by simp [allB]
 | false :: r => by simp only [List.length_cons, allB, List.mem_append, List.mem_map]; exact .inl ⟨r, mem_allB r, rfl⟩
 | true :: r => by simp only [List.length_cons, allB, List.mem_append, List.mem_map]; exact .inr ⟨r, mem_allB r, rfl⟩
def floatB (md : Region.Mode) (ops : Array Oper) (n : Nat) (pre ms fs : List Nat) (c : Nat) (b : List Bool) : Bool :=
 let l := maskF n pre ms fs c b
 let rs := Region.ready md ops l
 (!(rs == []) || (c == ms.length && b.all id)) && rs.all fun i => (decide (c < ms.length) && ms[c]? == some i && l.setIfInBounds i true == maskF n pre ms fs (c + 1) b) || (c == ms.length && b.all id) || (List.range fs.length).any fun j => b[j]? == some false && fs[j]? == some i && l.setIfInBounds i true == maskF n pre ms fs c (b.set j true)
def floatsB (md : Region.Mode) (ops : Array Oper) (n : Nat) (pre ms fs : List Nat) : Bool := (List.range (ms.length + 1)).all fun c => (allB fs.length).all fun b => floatB md ops n pre ms fs c b
theorem all_set {b : List Bool} : b.all id = true ∨ ∃ j : Nat, b[j]? = some false := by
 by_cases h : b.all id = true
 ·exact .inl h
 ·right
  simp only [List.all_eq_true, id_eq, Classical.not_forall] at h
  obtain ⟨x, hx, hn⟩ := h
  obtain ⟨j, hj⟩ := List.mem_iff_getElem?.1 hx
  refine ⟨j, ?_⟩
  rw [hj]
  cases x
  ·rfl
  ·exact absurd rfl hn
theorem count_set : ∀ (b : List Bool) (j : Nat), b[j]? = some false → (b.set j true).countP (fun x => !x) + 1 = b.countP (fun x => !x)
 | [], j, h => by simp at h
 | x :: r, 0, h => by
  have hx : x = false := by simpa using h
  subst hx
  simp
 | x :: r, j + 1, h => by
  have h2 := count_set r j (by simpa using h)
  rw [List.set_cons_succ]
  rw [List.countP_cons, List.countP_cons]
  omega
theorem floats_ {P : Program} {md : Region.Mode} {ops : Array Oper} {Q : Exit → Act → World → Prop} {S : World → Prop} {ds : List Nat} {a0 : Act} (n : Nat) (pre ms fs : List Nat) (hB : floatsB md ops n pre ms fs = true) (St : Act → Nat → List Bool → Act → World → Prop) (hSt : ∀ c b a w, St a0 c b a w → S w)
  (hmain : ∀ c i b a w, ms[c]? = some i → St a0 c b a w → wpOp P ops Q i (fun a' w' => St a0 (c + 1) b a' w') a w)
  (hfl : ∀ c j i b a w, fs[j]? = some i → b.length = fs.length → b[j]? = some false → St a0 c b a w → wpOp P ops Q i (fun a' w' => St a0 c (b.set j true) a' w') a w)
  (fuel : Nat) (hend : ∀ b a w, b.length = fs.length → b.all id = true → St a0 ms.length b a w → wpAnyLast P md ops Q S ds fuel (maskF n pre ms fs ms.length b) a w) :
  ∀ (d c : Nat) (b : List Bool) (a : Act) (w : World), c ≤ ms.length → b.length = fs.length → (ms.length - c) + b.countP (fun x => !x) = d → St a0 c b a w → wpAnyLast P md ops Q S ds (d + fuel) (maskF n pre ms fs c b) a w := by
 intro d
 induction d with
 | zero =>
  intro c b a w hc hb hd h
  have hce : c = ms.length := by omega
  subst hce
  have hall : b.all id = true := by
   rcases all_set (b := b) with h1 | ⟨j, hj⟩
   ·exact h1
   ·have := count_set b j hj; omega
  have hz : 0 + fuel = fuel := by omega
  rw [hz]
  exact hend b a w hb hall h
 | succ d ih =>
  intro c b a w hc hb hd h
  have hk : floatB md ops n pre ms fs c b = true := by
   unfold floatsB at hB
   have h1 := List.all_eq_true.1 hB c (List.mem_range.2 (by omega))
   exact List.all_eq_true.1 h1 b (by rw [← hb]; exact mem_allB b)
  have hnot : ¬ (c = ms.length ∧ b.all id = true) := by
   rintro ⟨rfl, hall⟩
   have : b.countP (fun x => !x) = 0 := by
    rw [List.countP_eq_zero]
    intro x hx
    have := List.all_eq_true.1 hall x hx
    simpa using this
   omega
  unfold floatB at hk
  simp only [Bool.and_eq_true, Bool.or_eq_true, Bool.not_eq_true', beq_eq_false_iff_ne, ne_eq, beq_iff_eq, List.all_eq_true, decide_eq_true_eq, List.any_eq_true, List.mem_range] at hk
  obtain ⟨hne, hall⟩ := hk
  have hf : d + 1 + fuel = (d + fuel) + 1 := by omega
  rw [hf]
  refine wpAnyLast_all rfl (by
   rcases hne with hne | ⟨h1, h2⟩
   ·exact hne
   ·exact absurd ⟨h1, List.all_eq_true.2 h2⟩ hnot) (fun i hi => ?_)
  rcases hall i hi with (⟨⟨h1, h2⟩, h3⟩ | ⟨h1, h2⟩) | ⟨j, hj, ⟨h2, h3⟩, h4⟩
  ·refine wpOp_mono (fun a' w' hs => ⟨fun _ _ => hSt _ _ _ _ hs, ?_⟩) (hmain c i b a w h2 h)
   rw [h3]
   exact ih (c + 1) b a' w' (by omega) hb (by omega) hs
  ·exact absurd ⟨h1, List.all_eq_true.2 h2⟩ hnot
  ·refine wpOp_mono (fun a' w' hs => ⟨fun _ _ => hSt _ _ _ _ hs, ?_⟩) (hfl c j i b a w h3 hb h2 h)
   rw [h4]
   exact ih c (b.set j true) a' w' hc (by rw [List.length_set]; exact hb) (by have := count_set b j h2; omega) hs
theorem floats0 {P : Program} {md : Region.Mode} {ops : Array Oper} {Q : Exit → Act → World → Prop} {S : World → Prop} {ds : List Nat} {a0 : Act} (n : Nat) (pre ms fs : List Nat) (hB : floatsB md ops n pre ms fs = true) (St : Act → Nat → List Bool → Act → World → Prop) (hSt : ∀ c b a w, St a0 c b a w → S w)
  (hmain : ∀ c i b a w, ms[c]? = some i → St a0 c b a w → wpOp P ops Q i (fun a' w' => St a0 (c + 1) b a' w') a w)
  (hfl : ∀ c j i b a w, fs[j]? = some i → b.length = fs.length → b[j]? = some false → St a0 c b a w → wpOp P ops Q i (fun a' w' => St a0 c (b.set j true) a' w') a w)
  (fuel : Nat) (hend : ∀ b a w, b.length = fs.length → b.all id = true → St a0 ms.length b a w → wpAnyLast P md ops Q S ds fuel (maskF n pre ms fs ms.length b) a w) (d : Nat) (b : List Bool) (hb : b.length = fs.length) (hd : ms.length + b.countP (fun x => !x) = d) {w : World} (h0 : St a0 0 b a0 w) : wpAnyLast P md ops Q S ds (d + fuel) (maskF n pre ms fs 0 b) a0 w :=
 floats_ n pre ms fs hB St hSt hmain hfl fuel hend d 0 b a0 w (Nat.zero_le _) hb (by omega) h0
theorem op_step {P : Program} {ops : Array Oper} {Q : Exit → Act → World → Prop} {i : Nat} {N : Option Tmp} {oi : Oper} {K : Act → World → Prop} {a : Act} {w : World} (hi : ops[i]? = some oi) (hN : oi.dst = N)
  (h : ∀ K' : Act → World → Prop, (∀ a w, K a w → K' a w) → if Region.wanted oi (yielded ops a.tmps) = true then Oper.wp P oi a w K' Q else K' (a.put N undef) w) : wpOp P ops Q i K a w := by
 subst hN
 exact wpOp_step hi h
end Go.Proofs.YthphhogljniofaaDoor

/- Contracts over this translation: plans that are handed to a law; two plans' models. -/
namespace Go.Proofs.YthphhogljniofaaDoorX.Kd
open Go.RowKit Go.Proofs.YthphhogljniofaaDoor Go.Proofs.YthphhogljniofaaDoorW.PrintWords
structure S27 where
 f0 : Int
 f1 : List S74
 f2 : List S52
 f3 : List S87
 f4 : List ByteArray
def k27 : Kd S27 := Kd.iso (Kd.pair (Kd.int .i64) (Kd.pair (Kd.slice 74 k74) (Kd.pair (Kd.slice 52 k52) (Kd.pair (Kd.slice 87 k87) (Kd.slice 9 Kd.string))))) (fun x : S27 => (x.f0, x.f1, x.f2, x.f3, x.f4))
theorem k27_open {w : World} {x : S27} {cs : List Value} (h : k27.K w x cs) : ∃ A1 c1 A2 c2 A3 c3 A4 c4, cs = [.int .i64 x.f0, .slice A1 x.f1.length c1, .slice A2 x.f2.length c2, .slice A3 x.f3.length c3, .slice A4 x.f4.length c4] ∧ k74.C w A1 x.f1.length x.f1 ∧ k52.C w A2 x.f2.length x.f2 ∧ k87.C w A3 x.f3.length x.f3 ∧ Kd.string.C w A4 x.f4.length x.f4 := by
 obtain ⟨_, _, rfl, rfl, ⟨_, _, rfl, ⟨A1, c1, rfl, l1, g1⟩, ⟨_, _, rfl, ⟨A2, c2, rfl, l2, g2⟩, ⟨_, _, rfl, ⟨A3, c3, rfl, l3, g3⟩, ⟨A4, c4, rfl, l4, g4⟩⟩⟩⟩⟩ := h
 exact ⟨A1, c1, A2, c2, A3, c3, A4, c4, rfl, g1, g2, g3, g4⟩
end Go.Proofs.YthphhogljniofaaDoorX.Kd
namespace Go.Proofs.YthphhogljniofaaDoor
set_option linter.unusedVariables false
set_option linter.unusedSimpArgs false
open Go.RowKit Go.Proofs.YthphhogljniofaaDoorX.Kd Go.Proofs.YthphhogljniofaaDoorW.PrintWords Go.Proofs.YthphhogljniofaaDoorW.PrintLast Go.Proofs.YthphhogljniofaaDoorW.PrintMore

def PM (z : S27) : MdD := planM z.f0 z.f1 z.f2 z.f3 z.f4
/-- What may be asked of a plan: its texts are no longer than memory. -/
def okP (z : S27) : Prop := (∀ x ∈ z.f1, x.f0.size ≤ 9223372036854775807 ∧ x.f4.size ≤ 9223372036854775807) ∧ ∀ x ∈ z.f2, x.f0.size ≤ 9223372036854775807
def MDv (z : S27) (w : World) (v : Value) : Prop := ∃ A9 c9 A10 c10, v = .agg #[.bool (flagB z.f0 2), .bool (flagB z.f0 1), .int .u8 3, .int .u8 0, .int .u64 1, .int .u64 243, .int .u64 16, .int .u64 5, .int .u64 1, .slice A9 (madeSecs z.f0 z.f1 z.f2 z.f3).length c9, .slice A10 (segsR z.f4).length c10] ∧ Kd.C k78 w A9 (madeSecs z.f0 z.f1 z.f2 z.f3).length (madeSecs z.f0 z.f1 z.f2 z.f3) ∧ Kd.C k81 w A10 (segsR z.f4).length (segsR z.f4)
def TDv (z : S27) (w : World) (v : Value) : Prop := ∃ B9 d9 B10 d10, v = .agg #[.bool (flagB z.f0 1), .bool (flagB z.f0 2), .int .u8 3, .int .u8 0, .string ⟨#[]⟩, .int .u64 1, .int .u64 243, .int .u64 16, .int .u64 5, .int .u64 1, .slice B9 (PM z).L.length d9, .slice B10 (PM z).D.length d10] ∧ Kd.R k58 58 w 0 (fun _ => True) (.slice B9 (PM z).L.length d9) (PM z).L ∧ Kd.R k65 65 w 0 (fun _ => True) (.slice B10 (PM z).D.length d10) (PM z).D
theorem MDv.below {z : S27} {w w1 : World} {v : Value} (h : MDv z w v) (hb : Below w.heap.size w w1) : MDv z w1 v := by
 obtain ⟨A9, c9, A10, c10, e, h1, h2⟩ := h
 exact ⟨A9, c9, A10, c10, e, Kd.C_below h1 hb, Kd.C_below h2 hb⟩
theorem TDv.below {z : S27} {w w1 : World} {v : Value} (h : TDv z w v) (hb : Below w.heap.size w w1) : TDv z w1 v := by
 obtain ⟨A9, c9, A10, c10, e, h1, h2⟩ := h
 exact ⟨A9, c9, A10, c10, e, Kd.R_below h1 hb, Kd.R_below h2 hb⟩
theorem made_z (z : S27) (hz : okP z) (a01 a02 a03 a04 : Option Addr) (c01 c02 c03 c04 : Nat) (w : World) (h1 : Kd.C k74 w a01 z.f1.length z.f1) (h2 : Kd.C k52 w a02 z.f2.length z.f2) (h3 : Kd.C k87 w a03 z.f3.length z.f3) (h4 : Kd.C Kd.string w a04 z.f4.length z.f4) :
  Calls Tryd.prog 9 #[.agg #[.int .i64 z.f0, .slice a01 z.f1.length c01, .slice a02 z.f2.length c02, .slice a03 z.f3.length c03, .slice a04 z.f4.length c04]] w fun e w' => ∃ v, e = .returned v ∧ MDv z w' v ∧ Below w.heap.size w w' := by
 refine (made_any z.f0 z.f1 z.f2 z.f3 z.f4 hz.1 hz.2 a01 a02 a03 a04 c01 c02 c03 c04 w h1 h2 h3 h4).mono ?_
 rintro e w' ⟨v9, v10, rfl, hR, hD, hB⟩
 obtain ⟨A9, c9, rfl, _, hC9⟩ := Kd.R_reads hR
 obtain ⟨A10, c10, rfl, _, hC10⟩ := Kd.R_reads hD
 exact ⟨_, rfl, ⟨A9, c9, A10, c10, rfl, hC9, hC10⟩, hB⟩
theorem told_z (z : S27) (v : Value) (w : World) (h : MDv z w v) : Calls Tryd.prog 8 #[v] w fun e w' => ∃ u, e = .returned u ∧ TDv z w' u ∧ Below w.heap.size w w' := by
 obtain ⟨A9, c9, A10, c10, rfl, h1, h2⟩ := h
 have hl := madeSecs_len z.f0 z.f1 z.f2 z.f3
 have hs := segsR_le z.f4
 refine (told_any (flagB z.f0 2) (flagB z.f0 1) 3 0 1 243 16 5 1 (madeSecs z.f0 z.f1 z.f2 z.f3) (segsR z.f4) (by omega) (by omega) (fun x hx => by have := madeSecs_in z.f0 z.f1 z.f2 z.f3 x hx; omega) A9 A10 c9 c10 w h1 h2).mono ?_
 rintro e w' ⟨v9, v10, rfl, hR, hD, hB⟩
 obtain ⟨B9, d9, rfl⟩ := Kd.R_slice hR
 obtain ⟨B10, d10, rfl⟩ := Kd.R_slice hD
 exact ⟨_, rfl, ⟨B9, d9, B10, d10, rfl, Kd.R_lower hR (Nat.zero_le _), Kd.R_lower hD (Nat.zero_le _)⟩, hB⟩
/-- An allocated block that nobody has written yet. -/
def FLt (w0 w : World) (t : Option Bool) (u : Value) (g : Nat) : Prop := t = some true → u = .pointer (some ⟨g, 0, none⟩) ∧ w.heap[g]? = some (.cells #[.bool false, .bool false, .int .u8 0, .int .u8 0, .string ⟨#[]⟩, .int .u64 0, .int .u64 0, .int .u64 0, .int .u64 0, .int .u64 0, .slice none 0 0, .slice none 0 0] 39 (0, 0)) ∧ w0.heap.size ≤ g
theorem FLt.below {w0 w w1 : World} {t : Option Bool} {u : Value} {g : Nat} (h : FLt w0 w t u g) (hb : Below w.heap.size w w1) : FLt w0 w1 t u g := fun ht => ⟨(h ht).1, blk_below (h ht).2.1 hb, (h ht).2.2⟩
theorem FLt.lt {w0 w : World} {t : Option Bool} {u : Value} {g : Nat} (h : FLt w0 w t u g) (ht : t = some true) : g < w.heap.size := blk_lt (h ht).2.1
theorem diff_t (z z' : S27) (B0 E0 B1 E1 : Option Addr) (d0 e0 d1 e1 : Nat) (w : World) (h9 : Kd.C k58 w B0 (PM z).L.length (PM z).L) (h10 : Kd.C k65 w E0 (PM z).D.length (PM z).D) (j9 : Kd.C k58 w B1 (PM z').L.length (PM z').L) (j10 : Kd.C k65 w E1 (PM z').D.length (PM z').D) :
  Calls Tryd.prog 12 #[.agg #[.bool (flagB z.f0 1), .bool (flagB z.f0 2), .int .u8 3, .int .u8 0, .string ⟨#[]⟩, .int .u64 1, .int .u64 243, .int .u64 16, .int .u64 5, .int .u64 1, .slice B0 (PM z).L.length d0, .slice E0 (PM z).D.length e0], .agg #[.bool (flagB z'.f0 1), .bool (flagB z'.f0 2), .int .u8 3, .int .u8 0, .string ⟨#[]⟩, .int .u64 1, .int .u64 243, .int .u64 16, .int .u64 5, .int .u64 1, .slice B1 (PM z').L.length d1, .slice E1 (PM z').D.length e1]] w fun e w' => e = .returned (.string (diffR (PM z) (PM z'))) ∧ Below w.heap.size w w' :=
 diff_any (PM z) (PM z') (Nat.le_trans (planM_L _ _ _ _ _) (by decide)) (Nat.le_trans (planM_D _ _ _ _ _) (by decide)) B0 E0 B1 E1 d0 e0 d1 e1 w h9 h10 j9 j10
theorem models_t (z z' : S27) (B0 E0 B1 E1 : Option Addr) (d0 e0 d1 e1 : Nat) (w : World) (h9 : Kd.C k58 w B0 (PM z).L.length (PM z).L) (h10 : Kd.C k65 w E0 (PM z).D.length (PM z).D) (j9 : Kd.C k58 w B1 (PM z').L.length (PM z').L) (j10 : Kd.C k65 w E1 (PM z').D.length (PM z').D) :
  Calls Tryd.prog 10 #[.agg #[.bool (flagB z.f0 1), .bool (flagB z.f0 2), .int .u8 3, .int .u8 0, .string ⟨#[]⟩, .int .u64 1, .int .u64 243, .int .u64 16, .int .u64 5, .int .u64 1, .slice B0 (PM z).L.length d0, .slice E0 (PM z).D.length e0], .agg #[.bool (flagB z'.f0 1), .bool (flagB z'.f0 2), .int .u8 3, .int .u8 0, .string ⟨#[]⟩, .int .u64 1, .int .u64 243, .int .u64 16, .int .u64 5, .int .u64 1, .slice B1 (PM z').L.length d1, .slice E1 (PM z').D.length e1]] w fun e w' => e = .returned (.bool (eqC (diffR (PM z) (PM z')) ⟨#[]⟩)) ∧ Below w.heap.size w w' :=
 models_any (PM z) (PM z') (Nat.le_trans (planM_L _ _ _ _ _) (by decide)) (Nat.le_trans (planM_D _ _ _ _ _) (by decide)) B0 E0 B1 E1 d0 e0 d1 e1 w h9 h10 j9 j10
theorem diffS_t (z : S27) (n0 : ByteArray) (hn : n0 = ⟨#[]⟩) (B0 E0 : Option Addr) (d0 e0 : Nat) (w : World) (h9 : Kd.C k58 w B0 (PM z).L.length (PM z).L) (h10 : Kd.C k65 w E0 (PM z).D.length (PM z).D) :
  Calls Tryd.prog 12 #[.agg #[.bool (flagB z.f0 1), .bool (flagB z.f0 2), .int .u8 3, .int .u8 0, .string ⟨#[]⟩, .int .u64 1, .int .u64 243, .int .u64 16, .int .u64 5, .int .u64 1, .slice B0 (PM z).L.length d0, .slice E0 (PM z).D.length e0], .agg #[.bool (flagB z.f0 1), .bool (flagB z.f0 2), .int .u8 3, .int .u8 0, .string ⟨#[]⟩, .int .u64 1, .int .u64 243, .int .u64 16, .int .u64 5, .int .u64 1, .slice B0 (PM z).L.length d0, .slice E0 (PM z).D.length e0]] w fun e w' => e = .returned (.string n0) ∧ Below w.heap.size w w' := by
 refine (diff_t z z B0 E0 B0 E0 d0 e0 d0 e0 w h9 h10 h9 h10).mono ?_
 rintro e w' ⟨rfl, hb⟩
 rw [diffR_nil.2 (eqM_refl _), hn]
 exact ⟨rfl, hb⟩
end Go.Proofs.YthphhogljniofaaDoor

/- Contracts over this translation: SameTwo's walk. -/
namespace Go.Proofs.YthphhogljniofaaDoor
set_option linter.unusedVariables false
set_option linter.unusedSimpArgs false
open Go.RowKit Go.Proofs.YthphhogljniofaaDoorX.Kd Go.Proofs.YthphhogljniofaaDoorW.PrintWords Go.Proofs.YthphhogljniofaaDoorW.PrintLast Go.Proofs.YthphhogljniofaaDoorW.PrintMore

theorem alike_t (z z' : S27) (B0 E0 B1 E1 : Option Addr) (d0 e0 d1 e1 : Nat) (w : World) (h9 : Kd.C k58 w B0 (PM z).L.length (PM z).L) (h10 : Kd.C k65 w E0 (PM z).D.length (PM z).D) (j9 : Kd.C k58 w B1 (PM z').L.length (PM z').L) (j10 : Kd.C k65 w E1 (PM z').D.length (PM z').D) :
  Calls Tryd.prog 11 #[.agg #[.bool (flagB z.f0 1), .bool (flagB z.f0 2), .int .u8 3, .int .u8 0, .string ⟨#[]⟩, .int .u64 1, .int .u64 243, .int .u64 16, .int .u64 5, .int .u64 1, .slice B0 (PM z).L.length d0, .slice E0 (PM z).D.length e0], .agg #[.bool (flagB z'.f0 1), .bool (flagB z'.f0 2), .int .u8 3, .int .u8 0, .string ⟨#[]⟩, .int .u64 1, .int .u64 243, .int .u64 16, .int .u64 5, .int .u64 1, .slice B1 (PM z').L.length d1, .slice E1 (PM z').D.length e1]] w fun e w' => e = .returned (.bool (eqC (diffR (PM z) (PM z')) ⟨#[]⟩)) ∧ Below w.heap.size w w' :=
 alike_any (PM z) (PM z') (Nat.le_trans (planM_L _ _ _ _ _) (by decide)) (Nat.le_trans (planM_D _ _ _ _ _) (by decide)) B0 E0 B1 E1 d0 e0 d1 e1 w h9 h10 j9 j10
theorem modelsS_t (z : S27) (B0 E0 B1 E1 : Option Addr) (d0 e0 d1 e1 : Nat) (w : World) (h9 : Kd.C k58 w B0 (PM z).L.length (PM z).L) (h10 : Kd.C k65 w E0 (PM z).D.length (PM z).D) (j9 : Kd.C k58 w B1 (PM z).L.length (PM z).L) (j10 : Kd.C k65 w E1 (PM z).D.length (PM z).D) :
  Calls Tryd.prog 10 #[.agg #[.bool (flagB z.f0 1), .bool (flagB z.f0 2), .int .u8 3, .int .u8 0, .string ⟨#[]⟩, .int .u64 1, .int .u64 243, .int .u64 16, .int .u64 5, .int .u64 1, .slice B0 (PM z).L.length d0, .slice E0 (PM z).D.length e0], .agg #[.bool (flagB z.f0 1), .bool (flagB z.f0 2), .int .u8 3, .int .u8 0, .string ⟨#[]⟩, .int .u64 1, .int .u64 243, .int .u64 16, .int .u64 5, .int .u64 1, .slice B1 (PM z).L.length d1, .slice E1 (PM z).D.length e1]] w fun e w' => e = .returned (.bool true) ∧ Below w.heap.size w w' := by
 refine (models_t z z B0 E0 B1 E1 d0 e0 d1 e1 w h9 h10 j9 j10).mono ?_
 rintro e w' ⟨rfl, hb⟩
 rw [eqC_true (diffR_nil.2 (eqM_refl _))]
 exact ⟨rfl, hb⟩
theorem copy_t (z : S27) (B0 E0 : Option Addr) (d0 e0 : Nat) (w : World) (h9 : Kd.C k58 w B0 (PM z).L.length (PM z).L) (h10 : Kd.C k65 w E0 (PM z).D.length (PM z).D) :
  Calls Tryd.prog 13 #[.agg #[.bool (flagB z.f0 1), .bool (flagB z.f0 2), .int .u8 3, .int .u8 0, .string ⟨#[]⟩, .int .u64 1, .int .u64 243, .int .u64 16, .int .u64 5, .int .u64 1, .slice B0 (PM z).L.length d0, .slice E0 (PM z).D.length e0]] w fun e w' => ∃ B1 d1 E1 e1, e = .returned (.agg #[.bool (flagB z.f0 1), .bool (flagB z.f0 2), .int .u8 3, .int .u8 0, .string ⟨#[]⟩, .int .u64 1, .int .u64 243, .int .u64 16, .int .u64 5, .int .u64 1, .slice B1 (PM z).L.length d1, .slice E1 (PM z).D.length e1]) ∧ Kd.C k58 w' B1 (PM z).L.length (PM z).L ∧ Kd.C k65 w' E1 (PM z).D.length (PM z).D ∧ Below w.heap.size w w' := by
 have hl : (PM z).L.length ≤ 13 := planM_L _ _ _ _ _
 have hd : (PM z).D.length ≤ 3 := planM_D _ _ _ _ _
 refine (copy_any (flagB z.f0 1) (flagB z.f0 2) 3 0 ⟨#[]⟩ 1 243 16 5 1 (PM z).L (PM z).D (by omega) (by omega) (fun x hx => by have := planM_in z.f0 z.f1 z.f2 z.f3 z.f4 x hx; omega) B0 E0 d0 e0 w h9 h10).mono ?_
 rintro e w' ⟨v9, v10, rfl, hS, hR, hB⟩
 obtain ⟨A9, c9, rfl, _, hC9⟩ := Kd.R_reads (Kd.S_R hS)
 obtain ⟨A10, c10, rfl, _, hC10⟩ := Kd.R_reads hR
 exact ⟨_, _, _, _, rfl, hC9, hC10, hB⟩
set_option maxRecDepth 100000 in
set_option maxHeartbeats 32000000 in
theorem two_walk (z0 z1 : S27) (hz0 : okP z0) (hz1 : okP z1) (cs0 cs1 : List Value) (w : World) (h0 : k27.K w z0 cs0) (h1 : k27.K w z1 cs1) :
  Calls Tryd.prog 3 #[.agg cs0.toArray, .agg cs1.toArray] w fun e w' => e = .returned (.bool true) ∧ Below w.heap.size w w' := by
 obtain ⟨a01, c01, a02, c02, a03, c03, a04, c04, rfl, g1, g2, g3, g4⟩ := k27_open h0
 have H01 := Lib.hid g1
 have H02 := Lib.hid g2
 have H03 := Lib.hid g3
 have H04 := Lib.hid g4
 clear g1 g2 g3 g4
 obtain ⟨a11, c11, a12, c12, a13, c13, a14, c14, rfl, g1, g2, g3, g4⟩ := k27_open h1
 have H11 := Lib.hid g1
 have H12 := Lib.hid g2
 have H13 := Lib.hid g3
 have H14 := Lib.hid g4
 clear g1 g2 g3 g4
 go_enter Tryd.func3, Tryd.ntmps3
 go_upto_region 3 with (first | (go_at_call 7; refine (speaks_any _).mono ?_; rintro e w1 ⟨rfl, hb1⟩; have HB1 := Lib.hid hb1; clear hb1))
 have HP1 := Lib.hid (show (w1.heap[w.heap.size]? = some (.cells #[.int .i64 z0.f0, .slice a01 z0.f1.length c01, .slice a02 z0.f2.length c02, .slice a03 z0.f3.length c03, .slice a04 z0.f4.length c04] 27 (0, 0)) ∧ w1.heap[w.heap.size + 1]? = some (.cells #[.int .i64 z1.f0, .slice a11 z1.f1.length c11, .slice a12 z1.f2.length c12, .slice a13 z1.f3.length c13, .slice a14 z1.f4.length c14] 27 (0, 0))) ∧ Below w.heap.size w w1 from by
  have h0 := blk_new w (.cells #[.int .i64 z0.f0, .slice a01 z0.f1.length c01, .slice a02 z0.f2.length c02, .slice a03 z0.f3.length c03, .slice a04 z0.f4.length c04] 27)
  have h1 := blk_new (w.alloc (.cells #[.int .i64 z0.f0, .slice a01 z0.f1.length c01, .slice a02 z0.f2.length c02, .slice a03 z0.f3.length c03, .slice a04 z0.f4.length c04] 27)) (.cells #[.int .i64 z1.f0, .slice a11 z1.f1.length c11, .slice a12 z1.f2.length c12, .slice a13 z1.f3.length c13, .slice a14 z1.f4.length c14] 27)
  rw [World.size_alloc] at h1
  exact ⟨⟨blk_below (blk_alloc h0 _) HB1.out, blk_below h1 HB1.out⟩, ((below_alloc (below_alloc (Below.refl w.heap.size w) _) _) : Below w.heap.size w _).trans (HB1.out.mono (by simp; omega))⟩)
 clear HB1
 have HPd := Lib.hid (show (w1.drew.heap[w.heap.size]? = some (.cells #[.int .i64 z0.f0, .slice a01 z0.f1.length c01, .slice a02 z0.f2.length c02, .slice a03 z0.f3.length c03, .slice a04 z0.f4.length c04] 27 (0, 0)) ∧ w1.drew.heap[w.heap.size + 1]? = some (.cells #[.int .i64 z1.f0, .slice a11 z1.f1.length c11, .slice a12 z1.f2.length c12, .slice a13 z1.f3.length c13, .slice a14 z1.f4.length c14] 27 (0, 0))) ∧ Below w.heap.size w w1.drew from ⟨⟨blk_drew HP1.out.1.1, blk_drew HP1.out.1.2⟩, below_drew1 HP1.out.2⟩)
 refine start_ (n := 10) (S := fun w' => w'.heap[w.heap.size]? = some (.cells #[.int .i64 z0.f0, .slice a01 z0.f1.length c01, .slice a02 z0.f2.length c02, .slice a03 z0.f3.length c03, .slice a04 z0.f4.length c04] 27 (0, 0)) ∧ w'.heap[w.heap.size + 1]? = some (.cells #[.int .i64 z1.f0, .slice a11 z1.f1.length c11, .slice a12 z1.f2.length c12, .slice a13 z1.f3.length c13, .slice a14 z1.f4.length c14] 27 (0, 0))) (ds := [8, 9]) #[false, false, false, false, false, false, false, false, false, false] (by kernel_rfl) (by rfl) (by rfl) HPd.out.1 (fun hHeld => ?_)
 generalize w1.drew = wd at HPd hHeld ⊢
 clear HP1
 refine take_ (i := 0) (N := some 9) (v := ?_) (a' := ?_) #[true, false, false, false, false, false, false, false, false, false] rfl rfl (by kernel_rfl) (fun _ _ _ h => h) (Or.inl ⟨by rfl, ?_⟩) hHeld ?_ ?_
 rotate_left
 ·rintro w' ⟨s0, s1⟩
  have x_0 := blk_cell s0 0
  have x_1 := blk_cell s0 1
  have x_2 := blk_cell s0 2
  have x_3 := blk_cell s0 3
  have x_4 := blk_cell s0 4
  have y_0 := blk_cell s1 0
  have y_1 := blk_cell s1 1
  have y_2 := blk_cell s1 2
  have y_3 := blk_cell s1 3
  have y_4 := blk_cell s1 4
  simp only [gA_, gB_, gC_] at x_0 x_1 x_2 x_3 x_4 y_0 y_1 y_2 y_3 y_4
  go_simp
  with_reducible rfl
 rotate_left
 ·simp only [Act.put, pA_, pB_, pC_]
  rfl
 refine take_ (i := 3) (N := some 12) (v := ?_) (a' := ?_) #[true, false, false, true, false, false, false, false, false, false] rfl rfl (by kernel_rfl) (fun _ _ _ h => h) (Or.inl ⟨by rfl, ?_⟩) hHeld ?_ ?_
 rotate_left
 ·rintro w' ⟨s0, s1⟩
  have x_0 := blk_cell s0 0
  have x_1 := blk_cell s0 1
  have x_2 := blk_cell s0 2
  have x_3 := blk_cell s0 3
  have x_4 := blk_cell s0 4
  have y_0 := blk_cell s1 0
  have y_1 := blk_cell s1 1
  have y_2 := blk_cell s1 2
  have y_3 := blk_cell s1 3
  have y_4 := blk_cell s1 4
  simp only [gA_, gB_, gC_] at x_0 x_1 x_2 x_3 x_4 y_0 y_1 y_2 y_3 y_4
  go_simp
  with_reducible rfl
 rotate_left
 ·simp only [Act.put, pA_, pB_, pC_]
  rfl
 have hm0 : #[true, false, false, true, false, false, false, false, false, false] = maskF 10 [0, 3] [1, 2, 4, 5] [6, 7] 0 [false, false] := by kernel_rfl
 rw [hm0]
 clear hm0 hHeld
 refine floats0 10 [0, 3] [1, 2, 4, 5] [6, 7] (by kernel_rfl) (fun a0 c b a w' => ∃ (u5 u6 x10 x11 x13 x14 : Value) (g5 g6 : Nat), a = Go.Proofs.YthphhogljniofaaDoorW.PrintLast.putAll a0 [(5, u5), (6, u6), (10, x10), (11, x11), (13, x13), (14, x14)] ∧ ((w'.heap[w.heap.size]? = some (.cells #[.int .i64 z0.f0, .slice a01 z0.f1.length c01, .slice a02 z0.f2.length c02, .slice a03 z0.f3.length c03, .slice a04 z0.f4.length c04] 27 (0, 0)) ∧ w'.heap[w.heap.size + 1]? = some (.cells #[.int .i64 z1.f0, .slice a11 z1.f1.length c11, .slice a12 z1.f2.length c12, .slice a13 z1.f3.length c13, .slice a14 z1.f4.length c14] 27 (0, 0))) ∧ Below w.heap.size w w') ∧ ((c = 1 → MDv z0 w' x10) ∧ (2 ≤ c → TDv z0 w' x11) ∧ (c = 3 → MDv z1 w' x13) ∧ (4 ≤ c → TDv z1 w' x14)) ∧ (FLt w w' b[0]? u5 g5 ∧ FLt w w' b[1]? u6 g6) ∧ ((b[0]? = some true → b[1]? = some true → g5 ≠ g6))) ?hSt ?hmain ?hfl 2 ?hend 6 [false, false] rfl rfl ?h0
 case hSt => rintro c b a w' ⟨u5, u6, x10, x11, x13, x14, g5, g6, _, h1, _⟩; exact h1.1
 case h0 => exact ⟨undef, undef, undef, undef, undef, undef, 0, 0, by simp only [Go.Proofs.YthphhogljniofaaDoorW.PrintLast.putAll, Act.put, pA_, pB_, pC_], HPd.out, ⟨(by intro h; omega), (by intro h; omega), (by intro h; omega), (by intro h; omega)⟩, ⟨(by intro h; cases h), (by intro h; cases h)⟩, (by intro h; cases h)⟩
 case hmain =>
  intro c i b a w' hi hst
  rcases c with _ | _ | _ | _ | c
  ·obtain rfl : 1 = i := by simpa using hi
   obtain ⟨u5, u6, x10, x11, x13, x14, g5, g6, rfl, ⟨hP, hB⟩, ⟨hc0, hc1, hc2, hc3⟩, ⟨hf0, hf1⟩, hn0⟩ := hst
   simp only [Go.Proofs.YthphhogljniofaaDoorW.PrintLast.putAll, Act.put, pA_, pB_, pC_]
   refine op_step (N := some 10) rfl rfl (fun K hK => ?_)
   refine goes_ (N := some 10) Tryd.func9 (by kernel_rfl) rfl #[.agg #[.int .i64 z0.f0, .slice a01 z0.f1.length c01, .slice a02 z0.f2.length c02, .slice a03 z0.f3.length c03, .slice a04 z0.f4.length c04]] (by rfl) rfl rfl (by first | rfl | (simp only [List.map_toArray, List.map_cons, List.map_nil]; rfl)) ?_
   refine (made_z z0 hz0 _ _ _ _ _ _ _ _ w' (Kd.C_below H01.out hB) (Kd.C_below H02.out hB) (Kd.C_below H03.out hB) (Kd.C_below H04.out hB)).mono ?_
   rintro e w2 ⟨v, rfl, hM, hB2⟩
   refine ⟨_, rfl, hK _ _ ⟨u5, u6, v, x11, x13, x14, g5, g6, by simp only [Go.Proofs.YthphhogljniofaaDoorW.PrintLast.putAll, Act.put, pA_, pB_, pC_], ⟨⟨blk_below hP.1 hB2, blk_below hP.2 hB2⟩, hB.trans (hB2.mono hB.size)⟩, ⟨(fun _ => hM), (fun h => absurd h (by omega)), (fun h => absurd h (by omega)), (fun h => absurd h (by omega))⟩, ⟨hf0.below hB2, hf1.below hB2⟩, hn0⟩⟩
  ·obtain rfl : 2 = i := by simpa using hi
   obtain ⟨u5, u6, x10, x11, x13, x14, g5, g6, rfl, ⟨hP, hB⟩, ⟨hc0, hc1, hc2, hc3⟩, ⟨hf0, hf1⟩, hn0⟩ := hst
   simp only [Go.Proofs.YthphhogljniofaaDoorW.PrintLast.putAll, Act.put, pA_, pB_, pC_]
   refine op_step (N := some 11) rfl rfl (fun K hK => ?_)
   refine goes_ (N := some 11) Tryd.func8 (by kernel_rfl) rfl #[x10] (by rfl) rfl rfl (by first | rfl | (simp only [List.map_toArray, List.map_cons, List.map_nil]; rfl)) ?_
   refine (told_z z0 x10 w' (hc0 rfl)).mono ?_
   rintro e w2 ⟨v, rfl, hM, hB2⟩
   refine ⟨_, rfl, hK _ _ ⟨u5, u6, x10, v, x13, x14, g5, g6, by simp only [Go.Proofs.YthphhogljniofaaDoorW.PrintLast.putAll, Act.put, pA_, pB_, pC_], ⟨⟨blk_below hP.1 hB2, blk_below hP.2 hB2⟩, hB.trans (hB2.mono hB.size)⟩, ⟨(fun h => absurd h (by omega)), (fun _ => hM), (fun h => absurd h (by omega)), (fun h => absurd h (by omega))⟩, ⟨hf0.below hB2, hf1.below hB2⟩, hn0⟩⟩
  ·obtain rfl : 4 = i := by simpa using hi
   obtain ⟨u5, u6, x10, x11, x13, x14, g5, g6, rfl, ⟨hP, hB⟩, ⟨hc0, hc1, hc2, hc3⟩, ⟨hf0, hf1⟩, hn0⟩ := hst
   simp only [Go.Proofs.YthphhogljniofaaDoorW.PrintLast.putAll, Act.put, pA_, pB_, pC_]
   refine op_step (N := some 13) rfl rfl (fun K hK => ?_)
   refine goes_ (N := some 13) Tryd.func9 (by kernel_rfl) rfl #[.agg #[.int .i64 z1.f0, .slice a11 z1.f1.length c11, .slice a12 z1.f2.length c12, .slice a13 z1.f3.length c13, .slice a14 z1.f4.length c14]] (by rfl) rfl rfl (by first | rfl | (simp only [List.map_toArray, List.map_cons, List.map_nil]; rfl)) ?_
   refine (made_z z1 hz1 _ _ _ _ _ _ _ _ w' (Kd.C_below H11.out hB) (Kd.C_below H12.out hB) (Kd.C_below H13.out hB) (Kd.C_below H14.out hB)).mono ?_
   rintro e w2 ⟨v, rfl, hM, hB2⟩
   refine ⟨_, rfl, hK _ _ ⟨u5, u6, x10, x11, v, x14, g5, g6, by simp only [Go.Proofs.YthphhogljniofaaDoorW.PrintLast.putAll, Act.put, pA_, pB_, pC_], ⟨⟨blk_below hP.1 hB2, blk_below hP.2 hB2⟩, hB.trans (hB2.mono hB.size)⟩, ⟨(fun h => absurd h (by omega)), (fun h => (hc1 (by omega)).below hB2), (fun _ => hM), (fun h => absurd h (by omega))⟩, ⟨hf0.below hB2, hf1.below hB2⟩, hn0⟩⟩
  ·obtain rfl : 5 = i := by simpa using hi
   obtain ⟨u5, u6, x10, x11, x13, x14, g5, g6, rfl, ⟨hP, hB⟩, ⟨hc0, hc1, hc2, hc3⟩, ⟨hf0, hf1⟩, hn0⟩ := hst
   simp only [Go.Proofs.YthphhogljniofaaDoorW.PrintLast.putAll, Act.put, pA_, pB_, pC_]
   refine op_step (N := some 14) rfl rfl (fun K hK => ?_)
   refine goes_ (N := some 14) Tryd.func8 (by kernel_rfl) rfl #[x13] (by rfl) rfl rfl (by first | rfl | (simp only [List.map_toArray, List.map_cons, List.map_nil]; rfl)) ?_
   refine (told_z z1 x13 w' (hc2 rfl)).mono ?_
   rintro e w2 ⟨v, rfl, hM, hB2⟩
   refine ⟨_, rfl, hK _ _ ⟨u5, u6, x10, x11, x13, v, g5, g6, by simp only [Go.Proofs.YthphhogljniofaaDoorW.PrintLast.putAll, Act.put, pA_, pB_, pC_], ⟨⟨blk_below hP.1 hB2, blk_below hP.2 hB2⟩, hB.trans (hB2.mono hB.size)⟩, ⟨(fun h => absurd h (by omega)), (fun h => (hc1 (by omega)).below hB2), (fun h => absurd h (by omega)), (fun _ => hM)⟩, ⟨hf0.below hB2, hf1.below hB2⟩, hn0⟩⟩
  ·simp at hi
 case hfl =>
  intro c j i b a w' hi hbl hbj hst
  obtain ⟨b0, b1, rfl⟩ : ∃ b0 b1, b = [b0, b1] := by
   match b, hbl with
   |[b0, b1], _ => exact ⟨b0, b1, rfl⟩
  rcases j with _ | _ | j
  ·obtain rfl : 6 = i := by simpa using hi
   obtain ⟨u5, u6, x10, x11, x13, x14, g5, g6, rfl, ⟨hP, hB⟩, ⟨hc0, hc1, hc2, hc3⟩, ⟨hf0, hf1⟩, hn0⟩ := hst
   simp only [Go.Proofs.YthphhogljniofaaDoorW.PrintLast.putAll, Act.put, pA_, pB_, pC_]
   refine op_step (N := some 5) rfl rfl (fun K hK => ?_)
   refine value_ (N := some 5) (w1 := ?_) (v := ?_) (by rfl) rfl ?_ ?_
   rotate_left 2
   ·go_simp
    constructor
    ·rfl
    ·rfl
   refine hK _ _ ⟨.pointer (some ⟨w'.heap.size, 0, none⟩), u6, x10, x11, x13, x14, w'.heap.size, g6, by simp only [Go.Proofs.YthphhogljniofaaDoorW.PrintLast.putAll, Act.put, pA_, pB_, pC_], ⟨⟨blk_alloc hP.1 _, blk_alloc hP.2 _⟩, below_alloc hB _⟩, ⟨(fun h => (hc0 h).below (below_alloc (Below.refl _ _) _)), (fun h => (hc1 h).below (below_alloc (Below.refl _ _) _)), (fun h => (hc2 h).below (below_alloc (Below.refl _ _) _)), (fun h => (hc3 h).below (below_alloc (Below.refl _ _) _))⟩, ⟨(fun _ => ⟨rfl, blk_new w' _, hB.size⟩), hf1.below (below_alloc (Below.refl _ _) _)⟩, (fun _ h => (Nat.ne_of_lt (hf1.lt h)).symm)⟩
  ·obtain rfl : 7 = i := by simpa using hi
   obtain ⟨u5, u6, x10, x11, x13, x14, g5, g6, rfl, ⟨hP, hB⟩, ⟨hc0, hc1, hc2, hc3⟩, ⟨hf0, hf1⟩, hn0⟩ := hst
   simp only [Go.Proofs.YthphhogljniofaaDoorW.PrintLast.putAll, Act.put, pA_, pB_, pC_]
   refine op_step (N := some 6) rfl rfl (fun K hK => ?_)
   refine value_ (N := some 6) (w1 := ?_) (v := ?_) (by rfl) rfl ?_ ?_
   rotate_left 2
   ·go_simp
    constructor
    ·rfl
    ·rfl
   refine hK _ _ ⟨u5, .pointer (some ⟨w'.heap.size, 0, none⟩), x10, x11, x13, x14, g5, w'.heap.size, by simp only [Go.Proofs.YthphhogljniofaaDoorW.PrintLast.putAll, Act.put, pA_, pB_, pC_], ⟨⟨blk_alloc hP.1 _, blk_alloc hP.2 _⟩, below_alloc hB _⟩, ⟨(fun h => (hc0 h).below (below_alloc (Below.refl _ _) _)), (fun h => (hc1 h).below (below_alloc (Below.refl _ _) _)), (fun h => (hc2 h).below (below_alloc (Below.refl _ _) _)), (fun h => (hc3 h).below (below_alloc (Below.refl _ _) _))⟩, ⟨hf0.below (below_alloc (Below.refl _ _) _), (fun _ => ⟨rfl, blk_new w' _, hB.size⟩)⟩, (fun h _ => Nat.ne_of_lt (hf0.lt h))⟩
  ·simp at hi
 case hend =>
  intro b a w' hbl hall hst
  obtain ⟨b0, b1, rfl⟩ : ∃ b0 b1, b = [b0, b1] := by
   match b, hbl with
   |[b0, b1], _ => exact ⟨b0, b1, rfl⟩
  have hb3 : b0 = true ∧ b1 = true := by simpa using hall
  obtain ⟨rfl, rfl⟩ := hb3
  obtain ⟨u5, u6, x10, x11, x13, x14, g5, g6, rfl, ⟨hP, hB⟩, ⟨hc0, hc1, hc2, hc3⟩, ⟨hf0, hf1⟩, hn0⟩ := hst
  obtain ⟨B0, d0, E0, e0, rfl, hC0, hD0⟩ := hc1 (by decide)
  obtain ⟨B1, d1, E1, e1, rfl, hC1, hD1⟩ := hc3 (by decide)
  obtain ⟨rfl, hY0, hG0⟩ := hf0 rfl
  obtain ⟨rfl, hY1, hG1⟩ := hf1 rfl
  have hne01 := hn0 rfl rfl
  clear hall hbl hc0 hc2 hn0
  have hm1 : maskF 10 [0, 3] [1, 2, 4, 5] [6, 7] 4 [true, true] = #[true, true, true, true, true, true, true, true, false, false] := by kernel_rfl
  refine Eq.mpr (congrArg (fun l => wpAnyLast _ _ _ _ _ _ _ l _ _) hm1) ?_
  clear hm1
  simp only [Go.Proofs.YthphhogljniofaaDoorW.PrintLast.putAll, Act.put, pA_, pB_, pC_]
  have h0 := blk_cell hY0 0
  have f0 := blk_frozen hY0 0
  have h1 := blk_cell hY0 1
  have f1 := blk_frozen hY0 1
  have h2 := blk_cell hY0 2
  have f2 := blk_frozen hY0 2
  have h3 := blk_cell hY0 3
  have f3 := blk_frozen hY0 3
  have h4 := blk_cell hY0 4
  have f4 := blk_frozen hY0 4
  have h5 := blk_cell hY0 5
  have f5 := blk_frozen hY0 5
  have h6 := blk_cell hY0 6
  have f6 := blk_frozen hY0 6
  have h7 := blk_cell hY0 7
  have f7 := blk_frozen hY0 7
  have h8 := blk_cell hY0 8
  have f8 := blk_frozen hY0 8
  have h9 := blk_cell hY0 9
  have f9 := blk_frozen hY0 9
  have h10 := blk_cell hY0 10
  have f10 := blk_frozen hY0 10
  have h11 := blk_cell hY0 11
  have f11 := blk_frozen hY0 11
  simp only [gA_, gB_, gC_] at h0 h1 h2 h3 h4 h5 h6 h7 h8 h9 h10 h11
  obtain ⟨W0, hW0⟩ : ∃ W0, W0 = putAll w' g5 0 [.bool (flagB z0.f0 1), .bool (flagB z0.f0 2), .int .u8 3, .int .u8 0, .string ⟨#[]⟩, .int .u64 1, .int .u64 243, .int .u64 16, .int .u64 5, .int .u64 1, .slice B0 (PM z0).L.length d0, .slice E0 (PM z0).D.length e0] := ⟨_, rfl⟩
  have hZ0 := putAll_new (w := w') [.bool false, .bool false, .int .u8 0, .int .u8 0, .string ⟨#[]⟩, .int .u64 0, .int .u64 0, .int .u64 0, .int .u64 0, .int .u64 0, .slice none 0 0, .slice none 0 0] [.bool (flagB z0.f0 1), .bool (flagB z0.f0 2), .int .u8 3, .int .u8 0, .string ⟨#[]⟩, .int .u64 1, .int .u64 243, .int .u64 16, .int .u64 5, .int .u64 1, .slice B0 (PM z0).L.length d0, .slice E0 (PM z0).D.length e0] hY0 rfl
  rw [← hW0] at hZ0
  have hY1' := (putAll_far (w := w') (g := g5) hne01.symm [.bool (flagB z0.f0 1), .bool (flagB z0.f0 2), .int .u8 3, .int .u8 0, .string ⟨#[]⟩, .int .u64 1, .int .u64 243, .int .u64 16, .int .u64 5, .int .u64 1, .slice B0 (PM z0).L.length d0, .slice E0 (PM z0).D.length e0] 0 _).trans hY1
  rw [← hW0] at hY1'
  clear hY1
  have hY1 := hY1'
  clear hY1'
  have hC0' := putAll_RT hC0 hY0 (by decide) [.bool (flagB z0.f0 1), .bool (flagB z0.f0 2), .int .u8 3, .int .u8 0, .string ⟨#[]⟩, .int .u64 1, .int .u64 243, .int .u64 16, .int .u64 5, .int .u64 1, .slice B0 (PM z0).L.length d0, .slice E0 (PM z0).D.length e0] 0
  rw [← hW0] at hC0'
  clear hC0
  have hC0 := hC0'
  clear hC0'
  have hD0' := putAll_RT hD0 hY0 (by decide) [.bool (flagB z0.f0 1), .bool (flagB z0.f0 2), .int .u8 3, .int .u8 0, .string ⟨#[]⟩, .int .u64 1, .int .u64 243, .int .u64 16, .int .u64 5, .int .u64 1, .slice B0 (PM z0).L.length d0, .slice E0 (PM z0).D.length e0] 0
  rw [← hW0] at hD0'
  clear hD0
  have hD0 := hD0'
  clear hD0'
  have hC1' := putAll_RT hC1 hY0 (by decide) [.bool (flagB z0.f0 1), .bool (flagB z0.f0 2), .int .u8 3, .int .u8 0, .string ⟨#[]⟩, .int .u64 1, .int .u64 243, .int .u64 16, .int .u64 5, .int .u64 1, .slice B0 (PM z0).L.length d0, .slice E0 (PM z0).D.length e0] 0
  rw [← hW0] at hC1'
  clear hC1
  have hC1 := hC1'
  clear hC1'
  have hD1' := putAll_RT hD1 hY0 (by decide) [.bool (flagB z0.f0 1), .bool (flagB z0.f0 2), .int .u8 3, .int .u8 0, .string ⟨#[]⟩, .int .u64 1, .int .u64 243, .int .u64 16, .int .u64 5, .int .u64 1, .slice B0 (PM z0).L.length d0, .slice E0 (PM z0).D.length e0] 0
  rw [← hW0] at hD1'
  clear hD1
  have hD1 := hD1'
  clear hD1'
  have hB0 := putAll_below hG0 [.bool (flagB z0.f0 1), .bool (flagB z0.f0 2), .int .u8 3, .int .u8 0, .string ⟨#[]⟩, .int .u64 1, .int .u64 243, .int .u64 16, .int .u64 5, .int .u64 1, .slice B0 (PM z0).L.length d0, .slice E0 (PM z0).D.length e0] 0 w' hB
  rw [← hW0] at hB0
  clear hB
  have hB := hB0
  clear hB0
  have hW0' := hW0
  simp only [putAll, Nat.reduceAdd] at hW0'
  clear hW0
  refine last_ (i := 8) (N := none) #[true, true, true, true, true, true, true, true, true, false] rfl rfl (by kernel_rfl) (by decide) (fun K hK => ?_)
  refine skip_ (w1 := ?_) (by rfl) rfl ?_ ?_
  rotate_left
  ·go_simp
   rfl
  refine hK.out _ _ ?_
  clear hK K
  rw [← hW0']
  clear hW0' h0 f0 h1 f1 h2 f2 h3 f3 h4 f4 h5 f5 h6 f6 h7 f7 h8 f8 h9 f9 h10 f10 h11 f11
  have h0 := blk_cell hY1 0
  have f0 := blk_frozen hY1 0
  have h1 := blk_cell hY1 1
  have f1 := blk_frozen hY1 1
  have h2 := blk_cell hY1 2
  have f2 := blk_frozen hY1 2
  have h3 := blk_cell hY1 3
  have f3 := blk_frozen hY1 3
  have h4 := blk_cell hY1 4
  have f4 := blk_frozen hY1 4
  have h5 := blk_cell hY1 5
  have f5 := blk_frozen hY1 5
  have h6 := blk_cell hY1 6
  have f6 := blk_frozen hY1 6
  have h7 := blk_cell hY1 7
  have f7 := blk_frozen hY1 7
  have h8 := blk_cell hY1 8
  have f8 := blk_frozen hY1 8
  have h9 := blk_cell hY1 9
  have f9 := blk_frozen hY1 9
  have h10 := blk_cell hY1 10
  have f10 := blk_frozen hY1 10
  have h11 := blk_cell hY1 11
  have f11 := blk_frozen hY1 11
  simp only [gA_, gB_, gC_] at h0 h1 h2 h3 h4 h5 h6 h7 h8 h9 h10 h11
  obtain ⟨W1, hW1⟩ : ∃ W1, W1 = putAll W0 g6 0 [.bool (flagB z1.f0 1), .bool (flagB z1.f0 2), .int .u8 3, .int .u8 0, .string ⟨#[]⟩, .int .u64 1, .int .u64 243, .int .u64 16, .int .u64 5, .int .u64 1, .slice B1 (PM z1).L.length d1, .slice E1 (PM z1).D.length e1] := ⟨_, rfl⟩
  have hZ1 := putAll_new (w := W0) [.bool false, .bool false, .int .u8 0, .int .u8 0, .string ⟨#[]⟩, .int .u64 0, .int .u64 0, .int .u64 0, .int .u64 0, .int .u64 0, .slice none 0 0, .slice none 0 0] [.bool (flagB z1.f0 1), .bool (flagB z1.f0 2), .int .u8 3, .int .u8 0, .string ⟨#[]⟩, .int .u64 1, .int .u64 243, .int .u64 16, .int .u64 5, .int .u64 1, .slice B1 (PM z1).L.length d1, .slice E1 (PM z1).D.length e1] hY1 rfl
  rw [← hW1] at hZ1
  have hZ0' := (putAll_far (w := W0) (g := g6) hne01 [.bool (flagB z1.f0 1), .bool (flagB z1.f0 2), .int .u8 3, .int .u8 0, .string ⟨#[]⟩, .int .u64 1, .int .u64 243, .int .u64 16, .int .u64 5, .int .u64 1, .slice B1 (PM z1).L.length d1, .slice E1 (PM z1).D.length e1] 0 _).trans hZ0
  rw [← hW1] at hZ0'
  clear hZ0
  have hZ0 := hZ0'
  clear hZ0'
  have hC0' := putAll_RT hC0 hY1 (by decide) [.bool (flagB z1.f0 1), .bool (flagB z1.f0 2), .int .u8 3, .int .u8 0, .string ⟨#[]⟩, .int .u64 1, .int .u64 243, .int .u64 16, .int .u64 5, .int .u64 1, .slice B1 (PM z1).L.length d1, .slice E1 (PM z1).D.length e1] 0
  rw [← hW1] at hC0'
  clear hC0
  have hC0 := hC0'
  clear hC0'
  have hD0' := putAll_RT hD0 hY1 (by decide) [.bool (flagB z1.f0 1), .bool (flagB z1.f0 2), .int .u8 3, .int .u8 0, .string ⟨#[]⟩, .int .u64 1, .int .u64 243, .int .u64 16, .int .u64 5, .int .u64 1, .slice B1 (PM z1).L.length d1, .slice E1 (PM z1).D.length e1] 0
  rw [← hW1] at hD0'
  clear hD0
  have hD0 := hD0'
  clear hD0'
  have hC1' := putAll_RT hC1 hY1 (by decide) [.bool (flagB z1.f0 1), .bool (flagB z1.f0 2), .int .u8 3, .int .u8 0, .string ⟨#[]⟩, .int .u64 1, .int .u64 243, .int .u64 16, .int .u64 5, .int .u64 1, .slice B1 (PM z1).L.length d1, .slice E1 (PM z1).D.length e1] 0
  rw [← hW1] at hC1'
  clear hC1
  have hC1 := hC1'
  clear hC1'
  have hD1' := putAll_RT hD1 hY1 (by decide) [.bool (flagB z1.f0 1), .bool (flagB z1.f0 2), .int .u8 3, .int .u8 0, .string ⟨#[]⟩, .int .u64 1, .int .u64 243, .int .u64 16, .int .u64 5, .int .u64 1, .slice B1 (PM z1).L.length d1, .slice E1 (PM z1).D.length e1] 0
  rw [← hW1] at hD1'
  clear hD1
  have hD1 := hD1'
  clear hD1'
  have hB1 := putAll_below hG1 [.bool (flagB z1.f0 1), .bool (flagB z1.f0 2), .int .u8 3, .int .u8 0, .string ⟨#[]⟩, .int .u64 1, .int .u64 243, .int .u64 16, .int .u64 5, .int .u64 1, .slice B1 (PM z1).L.length d1, .slice E1 (PM z1).D.length e1] 0 W0 hB
  rw [← hW1] at hB1
  clear hB
  have hB := hB1
  clear hB1
  have hW1' := hW1
  simp only [putAll, Nat.reduceAdd] at hW1'
  clear hW1
  refine last_ (i := 9) (N := none) #[true, true, true, true, true, true, true, true, true, true] rfl rfl (by kernel_rfl) (by decide) (fun K hK => ?_)
  refine skip_ (w1 := ?_) (by rfl) rfl ?_ ?_
  rotate_left
  ·go_simp
   rfl
  refine hK.out _ _ ?_
  clear hK K
  rw [← hW1']
  clear hW1' h0 f0 h1 f1 h2 f2 h3 f3 h4 f4 h5 f5 h6 f6 h7 f7 h8 f8 h9 f9 h10 f10 h11 f11
  refine done_ (by kernel_rfl) ?_
  have HM0 := Lib.hid hZ0
  have HL0 := Lib.hid (Kd.R_reads' hC0).2.2
  have HS0 := Lib.hid (Kd.R_reads' hD0).2.2
  have HM1 := Lib.hid hZ1
  have HL1 := Lib.hid (Kd.R_reads' hC1).2.2
  have HS1 := Lib.hid (Kd.R_reads' hD1).2.2
  have HBW := Lib.hid hB
  clear hB hP hZ0 hC0 hD0 hG0 hZ1 hC1 hD1 hG1
  have HG01 := Lib.hid (fun W (hb : Below W1.heap.size W1 W) => models_t z0 z1 B0 E0 B1 E1 d0 e0 d1 e1 W (Kd.C_below HL0.out hb) (Kd.C_below HS0.out hb) (Kd.C_below HL1.out hb) (Kd.C_below HS1.out hb))
  have HA01 := Lib.hid (fun W (hb : Below W1.heap.size W1 W) => alike_t z0 z1 B0 E0 B1 E1 d0 e0 d1 e1 W (Kd.C_below HL0.out hb) (Kd.C_below HS0.out hb) (Kd.C_below HL1.out hb) (Kd.C_below HS1.out hb))
  have HD01 := Lib.hid (fun W (hb : Below W1.heap.size W1 W) => diff_t z0 z1 B0 E0 B1 E1 d0 e0 d1 e1 W (Kd.C_below HL0.out hb) (Kd.C_below HS0.out hb) (Kd.C_below HL1.out hb) (Kd.C_below HS1.out hb))
  have HC0 := Lib.hid (fun W (hb : Below W1.heap.size W1 W) => copy_t z0 B0 E0 d0 e0 W (Kd.C_below HL0.out hb) (Kd.C_below HS0.out hb))
  have HMM := Lib.hid (fun W (hb : Below W1.heap.size W1 W) B1 E1 d1 e1 => modelsS_t z0 B0 E0 B1 E1 d0 e0 d1 e1 W (Kd.C_below HL0.out hb) (Kd.C_below HS0.out hb))
  obtain ⟨q, hq⟩ : ∃ q : Bool, eqC (diffR (PM z0) (PM z1)) ⟨#[]⟩ = q := ⟨_, rfl⟩
  rw [hq] at HG01 HA01
  obtain ⟨d, hd⟩ : ∃ d, d = diffR (PM z0) (PM z1) := ⟨_, rfl⟩
  rw [← hd] at HD01 hq
  have n00 : (d.toList == ([] : List UInt8)) = q := (ba_empty d).trans hq
  have n01 : d.toList.isEmpty = q := (ba_isEmpty d).trans hq
  clear hd hq
  have hqq : (q == q) = true := beq_self_eq_true q
  go_upto_region 4 with (fail)
  have HN0 := Lib.hid (blk_drew HM0.out)
  have HN1 := Lib.hid (blk_drew HM1.out)
  have HMd := Lib.hid (show Below W1.heap.size W1 W1.drew from below_drew1 (Below.refl _ _))
  refine start_ (n := 24) (S := fun w' => w'.heap[g5]? = some (.cells #[.bool (flagB z0.f0 1), .bool (flagB z0.f0 2), .int .u8 3, .int .u8 0, .string ⟨#[]⟩, .int .u64 1, .int .u64 243, .int .u64 16, .int .u64 5, .int .u64 1, .slice B0 (PM z0).L.length d0, .slice E0 (PM z0).D.length e0] 39 (0, 0)) ∧ w'.heap[g6]? = some (.cells #[.bool (flagB z1.f0 1), .bool (flagB z1.f0 2), .int .u8 3, .int .u8 0, .string ⟨#[]⟩, .int .u64 1, .int .u64 243, .int .u64 16, .int .u64 5, .int .u64 1, .slice B1 (PM z1).L.length d1, .slice E1 (PM z1).D.length e1] 39 (0, 0))) (ds := []) #[false, false, false, false, false, false, false, false, false, false, false, false, false, false, false, false, false, false, false, false, false, false, false, false] (by kernel_rfl) (by rfl) (by rfl) ⟨HN0.out, HN1.out⟩ (fun hHeld => ?_)
  generalize W1.drew = wd4 at HN0 HN1 HMd hHeld ⊢
  refine take_ (i := 0) (N := some 15) (v := ?_) (a' := ?_) #[true, false, false, false, false, false, false, false, false, false, false, false, false, false, false, false, false, false, false, false, false, false, false, false] rfl rfl (by kernel_rfl) (fun _ _ _ h => h) (Or.inl ⟨by rfl, ?_⟩) hHeld ?_ ?_
  rotate_left
  ·rintro w' ⟨s0, s1⟩
   have x_0 := blk_cell s0 0
   have x_1 := blk_cell s0 1
   have x_2 := blk_cell s0 2
   have x_3 := blk_cell s0 3
   have x_4 := blk_cell s0 4
   have x_5 := blk_cell s0 5
   have x_6 := blk_cell s0 6
   have x_7 := blk_cell s0 7
   have x_8 := blk_cell s0 8
   have x_9 := blk_cell s0 9
   have x_10 := blk_cell s0 10
   have x_11 := blk_cell s0 11
   have y_0 := blk_cell s1 0
   have y_1 := blk_cell s1 1
   have y_2 := blk_cell s1 2
   have y_3 := blk_cell s1 3
   have y_4 := blk_cell s1 4
   have y_5 := blk_cell s1 5
   have y_6 := blk_cell s1 6
   have y_7 := blk_cell s1 7
   have y_8 := blk_cell s1 8
   have y_9 := blk_cell s1 9
   have y_10 := blk_cell s1 10
   have y_11 := blk_cell s1 11
   simp only [gA_, gB_, gC_] at x_0 x_1 x_2 x_3 x_4 x_5 x_6 x_7 x_8 x_9 x_10 x_11 y_0 y_1 y_2 y_3 y_4 y_5 y_6 y_7 y_8 y_9 y_10 y_11
   go_simp
   with_reducible rfl
  rotate_left
  ·simp only [Act.put, pA_, pB_, pC_]
   rfl
  refine take_ (i := 1) (N := some 16) (v := ?_) (a' := ?_) #[true, true, false, false, false, false, false, false, false, false, false, false, false, false, false, false, false, false, false, false, false, false, false, false] rfl rfl (by kernel_rfl) (fun _ _ _ h => h) (Or.inl ⟨by rfl, ?_⟩) hHeld ?_ ?_
  rotate_left
  ·rintro w' ⟨s0, s1⟩
   have x_0 := blk_cell s0 0
   have x_1 := blk_cell s0 1
   have x_2 := blk_cell s0 2
   have x_3 := blk_cell s0 3
   have x_4 := blk_cell s0 4
   have x_5 := blk_cell s0 5
   have x_6 := blk_cell s0 6
   have x_7 := blk_cell s0 7
   have x_8 := blk_cell s0 8
   have x_9 := blk_cell s0 9
   have x_10 := blk_cell s0 10
   have x_11 := blk_cell s0 11
   have y_0 := blk_cell s1 0
   have y_1 := blk_cell s1 1
   have y_2 := blk_cell s1 2
   have y_3 := blk_cell s1 3
   have y_4 := blk_cell s1 4
   have y_5 := blk_cell s1 5
   have y_6 := blk_cell s1 6
   have y_7 := blk_cell s1 7
   have y_8 := blk_cell s1 8
   have y_9 := blk_cell s1 9
   have y_10 := blk_cell s1 10
   have y_11 := blk_cell s1 11
   simp only [gA_, gB_, gC_] at x_0 x_1 x_2 x_3 x_4 x_5 x_6 x_7 x_8 x_9 x_10 x_11 y_0 y_1 y_2 y_3 y_4 y_5 y_6 y_7 y_8 y_9 y_10 y_11
   go_simp
   with_reducible rfl
  rotate_left
  ·simp only [Act.put, pA_, pB_, pC_]
   rfl
  refine take_ (i := 3) (N := some 18) (v := ?_) (a' := ?_) #[true, true, false, true, false, false, false, false, false, false, false, false, false, false, false, false, false, false, false, false, false, false, false, false] rfl rfl (by kernel_rfl) (fun _ _ _ h => h) (Or.inl ⟨by rfl, ?_⟩) hHeld ?_ ?_
  rotate_left
  ·rintro w' ⟨s0, s1⟩
   have x_0 := blk_cell s0 0
   have x_1 := blk_cell s0 1
   have x_2 := blk_cell s0 2
   have x_3 := blk_cell s0 3
   have x_4 := blk_cell s0 4
   have x_5 := blk_cell s0 5
   have x_6 := blk_cell s0 6
   have x_7 := blk_cell s0 7
   have x_8 := blk_cell s0 8
   have x_9 := blk_cell s0 9
   have x_10 := blk_cell s0 10
   have x_11 := blk_cell s0 11
   have y_0 := blk_cell s1 0
   have y_1 := blk_cell s1 1
   have y_2 := blk_cell s1 2
   have y_3 := blk_cell s1 3
   have y_4 := blk_cell s1 4
   have y_5 := blk_cell s1 5
   have y_6 := blk_cell s1 6
   have y_7 := blk_cell s1 7
   have y_8 := blk_cell s1 8
   have y_9 := blk_cell s1 9
   have y_10 := blk_cell s1 10
   have y_11 := blk_cell s1 11
   simp only [gA_, gB_, gC_] at x_0 x_1 x_2 x_3 x_4 x_5 x_6 x_7 x_8 x_9 x_10 x_11 y_0 y_1 y_2 y_3 y_4 y_5 y_6 y_7 y_8 y_9 y_10 y_11
   go_simp
   with_reducible rfl
  rotate_left
  ·simp only [Act.put, pA_, pB_, pC_]
   rfl
  refine take_ (i := 4) (N := some 19) (v := ?_) (a' := ?_) #[true, true, false, true, true, false, false, false, false, false, false, false, false, false, false, false, false, false, false, false, false, false, false, false] rfl rfl (by kernel_rfl) (fun _ _ _ h => h) (Or.inl ⟨by rfl, ?_⟩) hHeld ?_ ?_
  rotate_left
  ·rintro w' ⟨s0, s1⟩
   have x_0 := blk_cell s0 0
   have x_1 := blk_cell s0 1
   have x_2 := blk_cell s0 2
   have x_3 := blk_cell s0 3
   have x_4 := blk_cell s0 4
   have x_5 := blk_cell s0 5
   have x_6 := blk_cell s0 6
   have x_7 := blk_cell s0 7
   have x_8 := blk_cell s0 8
   have x_9 := blk_cell s0 9
   have x_10 := blk_cell s0 10
   have x_11 := blk_cell s0 11
   have y_0 := blk_cell s1 0
   have y_1 := blk_cell s1 1
   have y_2 := blk_cell s1 2
   have y_3 := blk_cell s1 3
   have y_4 := blk_cell s1 4
   have y_5 := blk_cell s1 5
   have y_6 := blk_cell s1 6
   have y_7 := blk_cell s1 7
   have y_8 := blk_cell s1 8
   have y_9 := blk_cell s1 9
   have y_10 := blk_cell s1 10
   have y_11 := blk_cell s1 11
   simp only [gA_, gB_, gC_] at x_0 x_1 x_2 x_3 x_4 x_5 x_6 x_7 x_8 x_9 x_10 x_11 y_0 y_1 y_2 y_3 y_4 y_5 y_6 y_7 y_8 y_9 y_10 y_11
   go_simp
   with_reducible rfl
  rotate_left
  ·simp only [Act.put, pA_, pB_, pC_]
   rfl
  refine one_ (i := 2) (N := some 17) #[true, true, true, true, true, false, false, false, false, false, false, false, false, false, false, false, false, false, false, false, false, false, false, false] rfl rfl (by kernel_rfl) (by decide) (fun K hK => ?_)
  refine goes_ Tryd.func10 (by kernel_rfl) rfl #[.agg #[.bool (flagB z0.f0 1), .bool (flagB z0.f0 2), .int .u8 3, .int .u8 0, .string ⟨#[]⟩, .int .u64 1, .int .u64 243, .int .u64 16, .int .u64 5, .int .u64 1, .slice B0 (PM z0).L.length d0, .slice E0 (PM z0).D.length e0], .agg #[.bool (flagB z1.f0 1), .bool (flagB z1.f0 2), .int .u8 3, .int .u8 0, .string ⟨#[]⟩, .int .u64 1, .int .u64 243, .int .u64 16, .int .u64 5, .int .u64 1, .slice B1 (PM z1).L.length d1, .slice E1 (PM z1).D.length e1]] (by rfl) rfl rfl (by first | rfl | (simp only [List.map_toArray, List.map_cons, List.map_nil]; rfl)) ?_
  refine (HG01.out wd4 HMd.out).mono ?_
  rintro e v1 ⟨rfl, hb⟩
  refine ⟨_, rfl, ?_⟩
  have HBv1 := Lib.hid (hb)
  clear hb
  refine hK.out _ _ ⟨blk_below HN0.out HBv1.out, blk_below HN1.out HBv1.out⟩ (fun hHeld => ?_)
  clear hK K
  refine norm_ (a' := ?_) ?_ ?_
  rotate_left
  ·show Act.put _ (some 17) _ = _
   simp only [Act.put, pA_, pB_, pC_]
   rfl
  refine one_ (i := 5) (N := some 20) #[true, true, true, true, true, true, false, false, false, false, false, false, false, false, false, false, false, false, false, false, false, false, false, false] rfl rfl (by kernel_rfl) (by decide) (fun K hK => ?_)
  refine goes_ Tryd.func11 (by kernel_rfl) rfl #[.agg #[.bool (flagB z0.f0 1), .bool (flagB z0.f0 2), .int .u8 3, .int .u8 0, .string ⟨#[]⟩, .int .u64 1, .int .u64 243, .int .u64 16, .int .u64 5, .int .u64 1, .slice B0 (PM z0).L.length d0, .slice E0 (PM z0).D.length e0], .agg #[.bool (flagB z1.f0 1), .bool (flagB z1.f0 2), .int .u8 3, .int .u8 0, .string ⟨#[]⟩, .int .u64 1, .int .u64 243, .int .u64 16, .int .u64 5, .int .u64 1, .slice B1 (PM z1).L.length d1, .slice E1 (PM z1).D.length e1]] (by rfl) rfl rfl (by first | rfl | (simp only [List.map_toArray, List.map_cons, List.map_nil]; rfl)) ?_
  refine (HA01.out v1 (HMd.out.trans (HBv1.out.mono HMd.out.size))).mono ?_
  rintro e v2 ⟨rfl, hb⟩
  refine ⟨_, rfl, ?_⟩
  have HBv2 := Lib.hid (HBv1.out.trans (hb.mono HBv1.out.size))
  clear hb
  refine hK.out _ _ ⟨blk_below HN0.out HBv2.out, blk_below HN1.out HBv2.out⟩ (fun hHeld => ?_)
  clear hK K
  refine norm_ (a' := ?_) ?_ ?_
  rotate_left
  ·show Act.put _ (some 20) _ = _
   simp only [Act.put, pA_, pB_, pC_]
   rfl
  refine pure_ (i := 6) (N := some 21) (v := ?_) (a' := ?_) #[true, true, true, true, true, true, true, false, false, false, false, false, false, false, false, false, false, false, false, false, false, false, false, false] rfl rfl (by kernel_rfl) (fun _ _ _ h => h) (Or.inl ⟨by rfl, ?_⟩) ?_ ?_
  rotate_left
  ·intro w'
   go_simp
   with_reducible rfl
  rotate_left
  ·simp only [Act.put, pA_, pB_, pC_]
   rfl
  refine pure_ (i := 7) (N := some 22) (v := ?_) (a' := ?_) #[true, true, true, true, true, true, true, true, false, false, false, false, false, false, false, false, false, false, false, false, false, false, false, false] rfl rfl (by kernel_rfl) (fun _ _ _ h => h) (Or.inl ⟨by rfl, ?_⟩) ?_ ?_
  rotate_left
  ·intro w'
   go_simp
   with_reducible rfl
  rotate_left
  ·simp only [Act.put, pA_, pB_, pC_]
   rfl
  refine take_ (i := 8) (N := some 23) (v := ?_) (a' := ?_) #[true, true, true, true, true, true, true, true, true, false, false, false, false, false, false, false, false, false, false, false, false, false, false, false] rfl rfl (by kernel_rfl) (fun _ _ _ h => h) (Or.inl ⟨by rfl, ?_⟩) hHeld ?_ ?_
  rotate_left
  ·rintro w' ⟨s0, s1⟩
   have x_0 := blk_cell s0 0
   have x_1 := blk_cell s0 1
   have x_2 := blk_cell s0 2
   have x_3 := blk_cell s0 3
   have x_4 := blk_cell s0 4
   have x_5 := blk_cell s0 5
   have x_6 := blk_cell s0 6
   have x_7 := blk_cell s0 7
   have x_8 := blk_cell s0 8
   have x_9 := blk_cell s0 9
   have x_10 := blk_cell s0 10
   have x_11 := blk_cell s0 11
   have y_0 := blk_cell s1 0
   have y_1 := blk_cell s1 1
   have y_2 := blk_cell s1 2
   have y_3 := blk_cell s1 3
   have y_4 := blk_cell s1 4
   have y_5 := blk_cell s1 5
   have y_6 := blk_cell s1 6
   have y_7 := blk_cell s1 7
   have y_8 := blk_cell s1 8
   have y_9 := blk_cell s1 9
   have y_10 := blk_cell s1 10
   have y_11 := blk_cell s1 11
   simp only [gA_, gB_, gC_] at x_0 x_1 x_2 x_3 x_4 x_5 x_6 x_7 x_8 x_9 x_10 x_11 y_0 y_1 y_2 y_3 y_4 y_5 y_6 y_7 y_8 y_9 y_10 y_11
   go_simp
   with_reducible rfl
  rotate_left
  ·simp only [Act.put, pA_, pB_, pC_]
   rfl
  refine take_ (i := 9) (N := some 24) (v := ?_) (a' := ?_) #[true, true, true, true, true, true, true, true, true, true, false, false, false, false, false, false, false, false, false, false, false, false, false, false] rfl rfl (by kernel_rfl) (fun _ _ _ h => h) (Or.inl ⟨by rfl, ?_⟩) hHeld ?_ ?_
  rotate_left
  ·rintro w' ⟨s0, s1⟩
   have x_0 := blk_cell s0 0
   have x_1 := blk_cell s0 1
   have x_2 := blk_cell s0 2
   have x_3 := blk_cell s0 3
   have x_4 := blk_cell s0 4
   have x_5 := blk_cell s0 5
   have x_6 := blk_cell s0 6
   have x_7 := blk_cell s0 7
   have x_8 := blk_cell s0 8
   have x_9 := blk_cell s0 9
   have x_10 := blk_cell s0 10
   have x_11 := blk_cell s0 11
   have y_0 := blk_cell s1 0
   have y_1 := blk_cell s1 1
   have y_2 := blk_cell s1 2
   have y_3 := blk_cell s1 3
   have y_4 := blk_cell s1 4
   have y_5 := blk_cell s1 5
   have y_6 := blk_cell s1 6
   have y_7 := blk_cell s1 7
   have y_8 := blk_cell s1 8
   have y_9 := blk_cell s1 9
   have y_10 := blk_cell s1 10
   have y_11 := blk_cell s1 11
   simp only [gA_, gB_, gC_] at x_0 x_1 x_2 x_3 x_4 x_5 x_6 x_7 x_8 x_9 x_10 x_11 y_0 y_1 y_2 y_3 y_4 y_5 y_6 y_7 y_8 y_9 y_10 y_11
   go_simp
   with_reducible rfl
  rotate_left
  ·simp only [Act.put, pA_, pB_, pC_]
   rfl
  refine take_ (i := 12) (N := some 27) (v := ?_) (a' := ?_) #[true, true, true, true, true, true, true, true, true, true, false, false, true, false, false, false, false, false, false, false, false, false, false, false] rfl rfl (by kernel_rfl) (fun _ _ _ h => h) (Or.inl ⟨by rfl, ?_⟩) hHeld ?_ ?_
  rotate_left
  ·rintro w' ⟨s0, s1⟩
   have x_0 := blk_cell s0 0
   have x_1 := blk_cell s0 1
   have x_2 := blk_cell s0 2
   have x_3 := blk_cell s0 3
   have x_4 := blk_cell s0 4
   have x_5 := blk_cell s0 5
   have x_6 := blk_cell s0 6
   have x_7 := blk_cell s0 7
   have x_8 := blk_cell s0 8
   have x_9 := blk_cell s0 9
   have x_10 := blk_cell s0 10
   have x_11 := blk_cell s0 11
   have y_0 := blk_cell s1 0
   have y_1 := blk_cell s1 1
   have y_2 := blk_cell s1 2
   have y_3 := blk_cell s1 3
   have y_4 := blk_cell s1 4
   have y_5 := blk_cell s1 5
   have y_6 := blk_cell s1 6
   have y_7 := blk_cell s1 7
   have y_8 := blk_cell s1 8
   have y_9 := blk_cell s1 9
   have y_10 := blk_cell s1 10
   have y_11 := blk_cell s1 11
   simp only [gA_, gB_, gC_] at x_0 x_1 x_2 x_3 x_4 x_5 x_6 x_7 x_8 x_9 x_10 x_11 y_0 y_1 y_2 y_3 y_4 y_5 y_6 y_7 y_8 y_9 y_10 y_11
   go_simp
   with_reducible rfl
  rotate_left
  ·simp only [Act.put, pA_, pB_, pC_]
   rfl
  refine take_ (i := 13) (N := some 28) (v := ?_) (a' := ?_) #[true, true, true, true, true, true, true, true, true, true, false, false, true, true, false, false, false, false, false, false, false, false, false, false] rfl rfl (by kernel_rfl) (fun _ _ _ h => h) (Or.inl ⟨by rfl, ?_⟩) hHeld ?_ ?_
  rotate_left
  ·rintro w' ⟨s0, s1⟩
   have x_0 := blk_cell s0 0
   have x_1 := blk_cell s0 1
   have x_2 := blk_cell s0 2
   have x_3 := blk_cell s0 3
   have x_4 := blk_cell s0 4
   have x_5 := blk_cell s0 5
   have x_6 := blk_cell s0 6
   have x_7 := blk_cell s0 7
   have x_8 := blk_cell s0 8
   have x_9 := blk_cell s0 9
   have x_10 := blk_cell s0 10
   have x_11 := blk_cell s0 11
   have y_0 := blk_cell s1 0
   have y_1 := blk_cell s1 1
   have y_2 := blk_cell s1 2
   have y_3 := blk_cell s1 3
   have y_4 := blk_cell s1 4
   have y_5 := blk_cell s1 5
   have y_6 := blk_cell s1 6
   have y_7 := blk_cell s1 7
   have y_8 := blk_cell s1 8
   have y_9 := blk_cell s1 9
   have y_10 := blk_cell s1 10
   have y_11 := blk_cell s1 11
   simp only [gA_, gB_, gC_] at x_0 x_1 x_2 x_3 x_4 x_5 x_6 x_7 x_8 x_9 x_10 x_11 y_0 y_1 y_2 y_3 y_4 y_5 y_6 y_7 y_8 y_9 y_10 y_11
   go_simp
   with_reducible rfl
  rotate_left
  ·simp only [Act.put, pA_, pB_, pC_]
   rfl
  refine one_ (i := 10) (N := some 25) #[true, true, true, true, true, true, true, true, true, true, true, false, true, true, false, false, false, false, false, false, false, false, false, false] rfl rfl (by kernel_rfl) (by decide) (fun K hK => ?_)
  refine goes_ Tryd.func12 (by kernel_rfl) rfl #[.agg #[.bool (flagB z0.f0 1), .bool (flagB z0.f0 2), .int .u8 3, .int .u8 0, .string ⟨#[]⟩, .int .u64 1, .int .u64 243, .int .u64 16, .int .u64 5, .int .u64 1, .slice B0 (PM z0).L.length d0, .slice E0 (PM z0).D.length e0], .agg #[.bool (flagB z1.f0 1), .bool (flagB z1.f0 2), .int .u8 3, .int .u8 0, .string ⟨#[]⟩, .int .u64 1, .int .u64 243, .int .u64 16, .int .u64 5, .int .u64 1, .slice B1 (PM z1).L.length d1, .slice E1 (PM z1).D.length e1]] (by rfl) rfl rfl (by first | rfl | (simp only [List.map_toArray, List.map_cons, List.map_nil]; rfl)) ?_
  refine (HD01.out v2 (HMd.out.trans (HBv2.out.mono HMd.out.size))).mono ?_
  rintro e v3 ⟨rfl, hb⟩
  refine ⟨_, rfl, ?_⟩
  have HBv3 := Lib.hid (HBv2.out.trans (hb.mono HBv2.out.size))
  clear hb
  refine hK.out _ _ ⟨blk_below HN0.out HBv3.out, blk_below HN1.out HBv3.out⟩ (fun hHeld => ?_)
  clear hK K
  refine norm_ (a' := ?_) ?_ ?_
  rotate_left
  ·show Act.put _ (some 25) _ = _
   simp only [Act.put, pA_, pB_, pC_]
   rfl
  refine pure_ (i := 11) (N := some 26) (v := ?_) (a' := ?_) #[true, true, true, true, true, true, true, true, true, true, true, true, true, true, false, false, false, false, false, false, false, false, false, false] rfl rfl (by kernel_rfl) (fun _ _ _ h => h) (Or.inl ⟨by rfl, ?_⟩) ?_ ?_
  rotate_left
  ·intro w'
   go_simp
   with_reducible rfl
  rotate_left
  ·simp only [Act.put, pA_, pB_, pC_]
   rfl
  refine one_ (i := 14) (N := some 29) #[true, true, true, true, true, true, true, true, true, true, true, true, true, true, true, false, false, false, false, false, false, false, false, false] rfl rfl (by kernel_rfl) (by decide) (fun K hK => ?_)
  refine goes_ Tryd.func11 (by kernel_rfl) rfl #[.agg #[.bool (flagB z0.f0 1), .bool (flagB z0.f0 2), .int .u8 3, .int .u8 0, .string ⟨#[]⟩, .int .u64 1, .int .u64 243, .int .u64 16, .int .u64 5, .int .u64 1, .slice B0 (PM z0).L.length d0, .slice E0 (PM z0).D.length e0], .agg #[.bool (flagB z1.f0 1), .bool (flagB z1.f0 2), .int .u8 3, .int .u8 0, .string ⟨#[]⟩, .int .u64 1, .int .u64 243, .int .u64 16, .int .u64 5, .int .u64 1, .slice B1 (PM z1).L.length d1, .slice E1 (PM z1).D.length e1]] (by rfl) rfl rfl (by first | rfl | (simp only [List.map_toArray, List.map_cons, List.map_nil]; rfl)) ?_
  refine (HA01.out v3 (HMd.out.trans (HBv3.out.mono HMd.out.size))).mono ?_
  rintro e v4 ⟨rfl, hb⟩
  refine ⟨_, rfl, ?_⟩
  have HBv4 := Lib.hid (HBv3.out.trans (hb.mono HBv3.out.size))
  clear hb
  refine hK.out _ _ ⟨blk_below HN0.out HBv4.out, blk_below HN1.out HBv4.out⟩ (fun hHeld => ?_)
  clear hK K
  refine norm_ (a' := ?_) ?_ ?_
  rotate_left
  ·show Act.put _ (some 29) _ = _
   simp only [Act.put, pA_, pB_, pC_]
   rfl
  refine pure_ (i := 15) (N := some 30) (v := ?_) (a' := ?_) #[true, true, true, true, true, true, true, true, true, true, true, true, true, true, true, true, false, false, false, false, false, false, false, false] rfl rfl (by kernel_rfl) (fun _ _ _ h => h) (Or.inl ⟨by rfl, ?_⟩) ?_ ?_
  rotate_left
  ·intro w'
   go_simp
   with_reducible rfl
  rotate_left
  ·simp only [Act.put, pA_, pB_, pC_]
   rfl
  refine pure_ (i := 16) (N := some 31) (v := ?_) (a' := ?_) #[true, true, true, true, true, true, true, true, true, true, true, true, true, true, true, true, true, false, false, false, false, false, false, false] rfl rfl (by kernel_rfl) (fun _ _ _ h => h) (Or.inl ⟨by rfl, ?_⟩) ?_ ?_
  rotate_left
  ·intro w'
   go_simp
   with_reducible rfl
  rotate_left
  ·simp only [Act.put, pA_, pB_, pC_]
   rfl
  refine pure_ (i := 17) (N := some 32) (v := ?_) (a' := ?_) #[true, true, true, true, true, true, true, true, true, true, true, true, true, true, true, true, true, true, false, false, false, false, false, false] rfl rfl (by kernel_rfl) (fun _ _ _ h => h) (Or.inl ⟨by rfl, ?_⟩) ?_ ?_
  rotate_left
  ·intro w'
   go_simp
   with_reducible rfl
  rotate_left
  ·simp only [Act.put, pA_, pB_, pC_]
   rfl
  refine take_ (i := 18) (N := some 33) (v := ?_) (a' := ?_) #[true, true, true, true, true, true, true, true, true, true, true, true, true, true, true, true, true, true, true, false, false, false, false, false] rfl rfl (by kernel_rfl) (fun _ _ _ h => h) (Or.inl ⟨by rfl, ?_⟩) hHeld ?_ ?_
  rotate_left
  ·rintro w' ⟨s0, s1⟩
   have x_0 := blk_cell s0 0
   have x_1 := blk_cell s0 1
   have x_2 := blk_cell s0 2
   have x_3 := blk_cell s0 3
   have x_4 := blk_cell s0 4
   have x_5 := blk_cell s0 5
   have x_6 := blk_cell s0 6
   have x_7 := blk_cell s0 7
   have x_8 := blk_cell s0 8
   have x_9 := blk_cell s0 9
   have x_10 := blk_cell s0 10
   have x_11 := blk_cell s0 11
   have y_0 := blk_cell s1 0
   have y_1 := blk_cell s1 1
   have y_2 := blk_cell s1 2
   have y_3 := blk_cell s1 3
   have y_4 := blk_cell s1 4
   have y_5 := blk_cell s1 5
   have y_6 := blk_cell s1 6
   have y_7 := blk_cell s1 7
   have y_8 := blk_cell s1 8
   have y_9 := blk_cell s1 9
   have y_10 := blk_cell s1 10
   have y_11 := blk_cell s1 11
   simp only [gA_, gB_, gC_] at x_0 x_1 x_2 x_3 x_4 x_5 x_6 x_7 x_8 x_9 x_10 x_11 y_0 y_1 y_2 y_3 y_4 y_5 y_6 y_7 y_8 y_9 y_10 y_11
   go_simp
   with_reducible rfl
  rotate_left
  ·simp only [Act.put, pA_, pB_, pC_]
   rfl
  refine take_ (i := 19) (N := some 34) (v := ?_) (a' := ?_) #[true, true, true, true, true, true, true, true, true, true, true, true, true, true, true, true, true, true, true, true, false, false, false, false] rfl rfl (by kernel_rfl) (fun _ _ _ h => h) (Or.inl ⟨by rfl, ?_⟩) hHeld ?_ ?_
  rotate_left
  ·rintro w' ⟨s0, s1⟩
   have x_0 := blk_cell s0 0
   have x_1 := blk_cell s0 1
   have x_2 := blk_cell s0 2
   have x_3 := blk_cell s0 3
   have x_4 := blk_cell s0 4
   have x_5 := blk_cell s0 5
   have x_6 := blk_cell s0 6
   have x_7 := blk_cell s0 7
   have x_8 := blk_cell s0 8
   have x_9 := blk_cell s0 9
   have x_10 := blk_cell s0 10
   have x_11 := blk_cell s0 11
   have y_0 := blk_cell s1 0
   have y_1 := blk_cell s1 1
   have y_2 := blk_cell s1 2
   have y_3 := blk_cell s1 3
   have y_4 := blk_cell s1 4
   have y_5 := blk_cell s1 5
   have y_6 := blk_cell s1 6
   have y_7 := blk_cell s1 7
   have y_8 := blk_cell s1 8
   have y_9 := blk_cell s1 9
   have y_10 := blk_cell s1 10
   have y_11 := blk_cell s1 11
   simp only [gA_, gB_, gC_] at x_0 x_1 x_2 x_3 x_4 x_5 x_6 x_7 x_8 x_9 x_10 x_11 y_0 y_1 y_2 y_3 y_4 y_5 y_6 y_7 y_8 y_9 y_10 y_11
   go_simp
   with_reducible rfl
  rotate_left
  ·simp only [Act.put, pA_, pB_, pC_]
   rfl
  refine one_ (i := 20) (N := some 35) #[true, true, true, true, true, true, true, true, true, true, true, true, true, true, true, true, true, true, true, true, true, false, false, false] rfl rfl (by kernel_rfl) (by decide) (fun K hK => ?_)
  refine goes_ Tryd.func13 (by kernel_rfl) rfl #[.agg #[.bool (flagB z0.f0 1), .bool (flagB z0.f0 2), .int .u8 3, .int .u8 0, .string ⟨#[]⟩, .int .u64 1, .int .u64 243, .int .u64 16, .int .u64 5, .int .u64 1, .slice B0 (PM z0).L.length d0, .slice E0 (PM z0).D.length e0]] (by rfl) rfl rfl (by first | rfl | (simp only [List.map_toArray, List.map_cons, List.map_nil]; rfl)) ?_
  refine (HC0.out v4 (HMd.out.trans (HBv4.out.mono HMd.out.size))).mono ?_
  rintro e v5 ⟨BC, dC, EC, eC, rfl, h9, h10, hb⟩
  refine ⟨_, rfl, ?_⟩
  have HBv5 := Lib.hid (HBv4.out.trans (hb.mono HBv4.out.size))
  clear hb
  have HK9 := Lib.hid h9
  have HK10 := Lib.hid h10
  clear h9 h10
  refine hK.out _ _ ⟨blk_below HN0.out HBv5.out, blk_below HN1.out HBv5.out⟩ (fun hHeld => ?_)
  clear hK K
  refine norm_ (a' := ?_) ?_ ?_
  rotate_left
  ·show Act.put _ (some 35) _ = _
   simp only [Act.put, pA_, pB_, pC_]
   rfl
  refine one_ (i := 21) (N := some 36) #[true, true, true, true, true, true, true, true, true, true, true, true, true, true, true, true, true, true, true, true, true, true, false, false] rfl rfl (by kernel_rfl) (by decide) (fun K hK => ?_)
  refine goes_ Tryd.func10 (by kernel_rfl) rfl #[.agg #[.bool (flagB z0.f0 1), .bool (flagB z0.f0 2), .int .u8 3, .int .u8 0, .string ⟨#[]⟩, .int .u64 1, .int .u64 243, .int .u64 16, .int .u64 5, .int .u64 1, .slice B0 (PM z0).L.length d0, .slice E0 (PM z0).D.length e0], .agg #[.bool (flagB z0.f0 1), .bool (flagB z0.f0 2), .int .u8 3, .int .u8 0, .string ⟨#[]⟩, .int .u64 1, .int .u64 243, .int .u64 16, .int .u64 5, .int .u64 1, .slice BC (PM z0).L.length dC, .slice EC (PM z0).D.length eC]] (by rfl) rfl rfl (by first | rfl | (simp only [List.map_toArray, List.map_cons, List.map_nil]; rfl)) ?_
  refine (HMM.out v5 (HMd.out.trans (HBv5.out.mono HMd.out.size)) BC EC dC eC HK9.out HK10.out).mono ?_
  rintro e v6 ⟨rfl, hb⟩
  refine ⟨_, rfl, ?_⟩
  have HBv6 := Lib.hid (HBv5.out.trans (hb.mono HBv5.out.size))
  clear hb
  refine hK.out _ _ ⟨blk_below HN0.out HBv6.out, blk_below HN1.out HBv6.out⟩ (fun hHeld => ?_)
  clear hK K
  refine norm_ (a' := ?_) ?_ ?_
  rotate_left
  ·show Act.put _ (some 36) _ = _
   simp only [Act.put, pA_, pB_, pC_]
   rfl
  refine pure_ (i := 22) (N := some 37) (v := ?_) (a' := ?_) #[true, true, true, true, true, true, true, true, true, true, true, true, true, true, true, true, true, true, true, true, true, true, true, false] rfl rfl (by kernel_rfl) (fun _ _ _ h => h) (Or.inl ⟨by rfl, ?_⟩) ?_ ?_
  rotate_left
  ·intro w'
   go_simp
   with_reducible rfl
  rotate_left
  ·simp only [Act.put, pA_, pB_, pC_]
   rfl
  refine pure_ (i := 23) (N := some 4) (v := ?_) (a' := ?_) #[true, true, true, true, true, true, true, true, true, true, true, true, true, true, true, true, true, true, true, true, true, true, true, true] rfl rfl (by kernel_rfl) (fun _ _ _ h => h) (Or.inl ⟨by rfl, ?_⟩) ?_ ?_
  rotate_left
  ·intro w'
   go_simp
   with_reducible rfl
  rotate_left
  ·simp only [Act.put, pA_, pB_, pC_]
   rfl
  refine done_ (by kernel_rfl) ?_
  have HQ := Lib.hid (HMd.out.trans (HBv6.out.mono HMd.out.size))
  go_wp2
  go_ret
  exact ⟨rfl, HBW.out.trans (HQ.out.mono HBW.out.size)⟩
end Go.Proofs.YthphhogljniofaaDoor

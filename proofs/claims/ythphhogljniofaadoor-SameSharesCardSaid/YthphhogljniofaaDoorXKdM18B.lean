/- Laws on a region that draws: allocations that no call waits for may come anywhere between the calls. -/
import Derived.Test.YthphhogljniofaaDoorXKdM17D
import Derived.Test.YthphhogljniofaaDoorXKdM17Q
import Derived.Test.YthphhogljniofaaDoorXKdM18A
import Derived.Test.YthphhogljniofaaDoorXKdM17W
namespace Go.Proofs.YthphhogljniofaaDoor
set_option linter.unusedVariables false
set_option linter.unusedSimpArgs false
open Go.RowKit Go.Proofs.YthphhogljniofaaDoorW.PrintWords Go.Proofs.YthphhogljniofaaDoorW.PrintLast Go.Proofs.YthphhogljniofaaDoorW.PrintMore

/-- What is done when c of the calls ms are, and of the allocations fs those that b tells. -/
def maskF (n : Nat) (pre ms fs : List Nat) (c : Nat) (b : List Bool) : Array Bool := ((List.range n).map fun i => pre.contains i || (ms.take c).contains i || (fs.zip b).any fun p => p.1 == i && p.2).toArray
def allB : Nat → List (List Bool)
  | 0 => [[]]
  | m + 1 => (allB m).map (false :: ·) ++ (allB m).map (true :: ·)
theorem mem_allB : ∀ b : List Bool, b ∈ allB b.length
  | [] => by simp [allB]
  | false :: r => by simp only [List.length_cons, allB, List.mem_append, List.mem_map]; exact .inl ⟨r, mem_allB r, rfl⟩
  | true :: r => by simp only [List.length_cons, allB, List.mem_append, List.mem_map]; exact .inr ⟨r, mem_allB r, rfl⟩
def floatB (md : Region.Mode) (ops : Array Oper) (n : Nat) (pre ms fs : List Nat) (c : Nat) (b : List Bool) : Bool :=
  let l := maskF n pre ms fs c b
  let rs := Region.ready md ops l
  (!(rs == []) || (c == ms.length && b.all id)) && rs.all fun i => (decide (c < ms.length) && ms[c]? == some i && l.setIfInBounds i true == maskF n pre ms fs (c + 1) b) || (c == ms.length && b.all id) || (List.range fs.length).any fun j => b[j]? == some false && fs[j]? == some i && l.setIfInBounds i true == maskF n pre ms fs c (b.set j true)
def floatsB (md : Region.Mode) (ops : Array Oper) (n : Nat) (pre ms fs : List Nat) : Bool := (List.range (ms.length + 1)).all fun c => (allB fs.length).all fun b => floatB md ops n pre ms fs c b
theorem all_set {b : List Bool} : b.all id = true ∨ ∃ j : Nat, b[j]? = some false := by
  by_cases h : b.all id = true
  · exact .inl h
  · right
    simp only [List.all_eq_true, id_eq, Classical.not_forall] at h
    obtain ⟨x, hx, hn⟩ := h
    obtain ⟨j, hj⟩ := List.mem_iff_getElem?.1 hx
    refine ⟨j, ?_⟩
    rw [hj]
    cases x
    · rfl
    · exact absurd rfl hn
theorem count_set : ∀ (b : List Bool) (j : Nat), b[j]? = some false → (b.set j true).countP (fun x => !x) + 1 = b.countP (fun x => !x)
  | [], j, h => by simp at h
  | x :: r, 0, h => by
    have hx : x = false := by simpa using h
    subst hx
    simp
  | x :: r, j + 1, h => by
    have h2 := count_set r j (by simpa using h)
    rw [List.set_cons_succ]
    rw [List.countP_cons, List.countP_cons]
    omega
theorem floats_ {P : Program} {md : Region.Mode} {ops : Array Oper} {Q : Exit → Act → World → Prop} {S : World → Prop} {ds : List Nat} {a0 : Act} (n : Nat) (pre ms fs : List Nat) (hB : floatsB md ops n pre ms fs = true) (St : Act → Nat → List Bool → Act → World → Prop) (hSt : ∀ c b a w, St a0 c b a w → S w)
    (hmain : ∀ c i b a w, ms[c]? = some i → St a0 c b a w → wpOp P ops Q i (fun a' w' => St a0 (c + 1) b a' w') a w)
    (hfl : ∀ c j i b a w, fs[j]? = some i → b.length = fs.length → b[j]? = some false → St a0 c b a w → wpOp P ops Q i (fun a' w' => St a0 c (b.set j true) a' w') a w)
    (fuel : Nat) (hend : ∀ b a w, b.length = fs.length → b.all id = true → St a0 ms.length b a w → wpAnyLast P md ops Q S ds fuel (maskF n pre ms fs ms.length b) a w) :
    ∀ (d c : Nat) (b : List Bool) (a : Act) (w : World), c ≤ ms.length → b.length = fs.length → (ms.length - c) + b.countP (fun x => !x) = d → St a0 c b a w → wpAnyLast P md ops Q S ds (d + fuel) (maskF n pre ms fs c b) a w := by
  intro d
  induction d with
  | zero =>
    intro c b a w hc hb hd h
    have hce : c = ms.length := by omega
    subst hce
    have hall : b.all id = true := by
      rcases all_set (b := b) with h1 | ⟨j, hj⟩
      · exact h1
      · have := count_set b j hj; omega
    have hz : 0 + fuel = fuel := by omega
    rw [hz]
    exact hend b a w hb hall h
  | succ d ih =>
    intro c b a w hc hb hd h
    have hk : floatB md ops n pre ms fs c b = true := by
      unfold floatsB at hB
      have h1 := List.all_eq_true.1 hB c (List.mem_range.2 (by omega))
      exact List.all_eq_true.1 h1 b (by rw [← hb]; exact mem_allB b)
    have hnot : ¬ (c = ms.length ∧ b.all id = true) := by
      rintro ⟨rfl, hall⟩
      have : b.countP (fun x => !x) = 0 := by
        rw [List.countP_eq_zero]
        intro x hx
        have := List.all_eq_true.1 hall x hx
        simpa using this
      omega
    unfold floatB at hk
    simp only [Bool.and_eq_true, Bool.or_eq_true, Bool.not_eq_true', beq_eq_false_iff_ne, ne_eq, beq_iff_eq, List.all_eq_true, decide_eq_true_eq, List.any_eq_true, List.mem_range] at hk
    obtain ⟨hne, hall⟩ := hk
    have hf : d + 1 + fuel = (d + fuel) + 1 := by omega
    rw [hf]
    refine wpAnyLast_all rfl (by
      rcases hne with hne | ⟨h1, h2⟩
      · exact hne
      · exact absurd ⟨h1, List.all_eq_true.2 h2⟩ hnot) (fun i hi => ?_)
    rcases hall i hi with (⟨⟨h1, h2⟩, h3⟩ | ⟨h1, h2⟩) | ⟨j, hj, ⟨h2, h3⟩, h4⟩
    · refine wpOp_mono (fun a' w' hs => ⟨fun _ _ => hSt _ _ _ _ hs, ?_⟩) (hmain c i b a w h2 h)
      rw [h3]
      exact ih (c + 1) b a' w' (by omega) hb (by omega) hs
    · exact absurd ⟨h1, List.all_eq_true.2 h2⟩ hnot
    · refine wpOp_mono (fun a' w' hs => ⟨fun _ _ => hSt _ _ _ _ hs, ?_⟩) (hfl c j i b a w h3 hb h2 h)
      rw [h4]
      exact ih c (b.set j true) a' w' hc (by rw [List.length_set]; exact hb) (by have := count_set b j h2; omega) hs
theorem floats0 {P : Program} {md : Region.Mode} {ops : Array Oper} {Q : Exit → Act → World → Prop} {S : World → Prop} {ds : List Nat} {a0 : Act} (n : Nat) (pre ms fs : List Nat) (hB : floatsB md ops n pre ms fs = true) (St : Act → Nat → List Bool → Act → World → Prop) (hSt : ∀ c b a w, St a0 c b a w → S w)
    (hmain : ∀ c i b a w, ms[c]? = some i → St a0 c b a w → wpOp P ops Q i (fun a' w' => St a0 (c + 1) b a' w') a w)
    (hfl : ∀ c j i b a w, fs[j]? = some i → b.length = fs.length → b[j]? = some false → St a0 c b a w → wpOp P ops Q i (fun a' w' => St a0 c (b.set j true) a' w') a w)
    (fuel : Nat) (hend : ∀ b a w, b.length = fs.length → b.all id = true → St a0 ms.length b a w → wpAnyLast P md ops Q S ds fuel (maskF n pre ms fs ms.length b) a w) (d : Nat) (b : List Bool) (hb : b.length = fs.length) (hd : ms.length + b.countP (fun x => !x) = d) {w : World} (h0 : St a0 0 b a0 w) : wpAnyLast P md ops Q S ds (d + fuel) (maskF n pre ms fs 0 b) a0 w :=
  floats_ n pre ms fs hB St hSt hmain hfl fuel hend d 0 b a0 w (Nat.zero_le _) hb (by omega) h0
theorem op_step {P : Program} {ops : Array Oper} {Q : Exit → Act → World → Prop} {i : Nat} {N : Option Tmp} {oi : Oper} {K : Act → World → Prop} {a : Act} {w : World} (hi : ops[i]? = some oi) (hN : oi.dst = N)
    (h : ∀ K' : Act → World → Prop, (∀ a w, K a w → K' a w) → if Region.wanted oi (yielded ops a.tmps) = true then Oper.wp P oi a w K' Q else K' (a.put N undef) w) : wpOp P ops Q i K a w := by
  subst hN
  exact wpOp_step hi h
end Go.Proofs.YthphhogljniofaaDoor

/- Contracts over this translation: plans that are handed to a law; two plans' models. -/
namespace Go.Proofs.YthphhogljniofaaDoorX.Kd
open Go.RowKit Go.Proofs.YthphhogljniofaaDoor Go.Proofs.YthphhogljniofaaDoorW.PrintWords
structure S27 where
  f0 : Int
  f1 : List S74
  f2 : List S52
  f3 : List S87
  f4 : List ByteArray
def k27 : Kd S27 := Kd.iso (Kd.pair (Kd.int .i64) (Kd.pair (Kd.slice 74 k74) (Kd.pair (Kd.slice 52 k52) (Kd.pair (Kd.slice 87 k87) (Kd.slice 9 Kd.string))))) (fun x : S27 => (x.f0, x.f1, x.f2, x.f3, x.f4))
theorem k27_open {w : World} {x : S27} {cs : List Value} (h : k27.K w x cs) : ∃ A1 c1 A2 c2 A3 c3 A4 c4, cs = [.int .i64 x.f0, .slice A1 x.f1.length c1, .slice A2 x.f2.length c2, .slice A3 x.f3.length c3, .slice A4 x.f4.length c4] ∧ k74.C w A1 x.f1.length x.f1 ∧ k52.C w A2 x.f2.length x.f2 ∧ k87.C w A3 x.f3.length x.f3 ∧ Kd.string.C w A4 x.f4.length x.f4 := by
  obtain ⟨_, _, rfl, rfl, ⟨_, _, rfl, ⟨A1, c1, rfl, l1, g1⟩, ⟨_, _, rfl, ⟨A2, c2, rfl, l2, g2⟩, ⟨_, _, rfl, ⟨A3, c3, rfl, l3, g3⟩, ⟨A4, c4, rfl, l4, g4⟩⟩⟩⟩⟩ := h
  exact ⟨A1, c1, A2, c2, A3, c3, A4, c4, rfl, g1, g2, g3, g4⟩
end Go.Proofs.YthphhogljniofaaDoorX.Kd
namespace Go.Proofs.YthphhogljniofaaDoor
set_option linter.unusedVariables false
set_option linter.unusedSimpArgs false
open Go.RowKit Go.Proofs.YthphhogljniofaaDoorX.Kd Go.Proofs.YthphhogljniofaaDoorW.PrintWords Go.Proofs.YthphhogljniofaaDoorW.PrintLast Go.Proofs.YthphhogljniofaaDoorW.PrintMore

def PM (z : S27) : MdD := planM z.f0 z.f1 z.f2 z.f3 z.f4
/-- What may be asked of a plan: its texts are no longer than memory. -/
def okP (z : S27) : Prop := (∀ x ∈ z.f1, x.f0.size ≤ 9223372036854775807 ∧ x.f4.size ≤ 9223372036854775807) ∧ ∀ x ∈ z.f2, x.f0.size ≤ 9223372036854775807
def MDv (z : S27) (w : World) (v : Value) : Prop := ∃ A9 c9 A10 c10, v = .agg #[.bool (flagB z.f0 2), .bool (flagB z.f0 1), .int .u8 3, .int .u8 0, .int .u64 1, .int .u64 243, .int .u64 16, .int .u64 5, .int .u64 1, .slice A9 (madeSecs z.f0 z.f1 z.f2 z.f3).length c9, .slice A10 (segsR z.f4).length c10] ∧ Kd.C k78 w A9 (madeSecs z.f0 z.f1 z.f2 z.f3).length (madeSecs z.f0 z.f1 z.f2 z.f3) ∧ Kd.C k81 w A10 (segsR z.f4).length (segsR z.f4)
def TDv (z : S27) (w : World) (v : Value) : Prop := ∃ B9 d9 B10 d10, v = .agg #[.bool (flagB z.f0 1), .bool (flagB z.f0 2), .int .u8 3, .int .u8 0, .string ⟨#[]⟩, .int .u64 1, .int .u64 243, .int .u64 16, .int .u64 5, .int .u64 1, .slice B9 (PM z).L.length d9, .slice B10 (PM z).D.length d10] ∧ Kd.R k58 58 w 0 (fun _ => True) (.slice B9 (PM z).L.length d9) (PM z).L ∧ Kd.R k65 65 w 0 (fun _ => True) (.slice B10 (PM z).D.length d10) (PM z).D
theorem MDv.below {z : S27} {w w1 : World} {v : Value} (h : MDv z w v) (hb : Below w.heap.size w w1) : MDv z w1 v := by
  obtain ⟨A9, c9, A10, c10, e, h1, h2⟩ := h
  exact ⟨A9, c9, A10, c10, e, Kd.C_below h1 hb, Kd.C_below h2 hb⟩
theorem TDv.below {z : S27} {w w1 : World} {v : Value} (h : TDv z w v) (hb : Below w.heap.size w w1) : TDv z w1 v := by
  obtain ⟨A9, c9, A10, c10, e, h1, h2⟩ := h
  exact ⟨A9, c9, A10, c10, e, Kd.R_below h1 hb, Kd.R_below h2 hb⟩
theorem made_z (z : S27) (hz : okP z) (a01 a02 a03 a04 : Option Addr) (c01 c02 c03 c04 : Nat) (w : World) (h1 : Kd.C k74 w a01 z.f1.length z.f1) (h2 : Kd.C k52 w a02 z.f2.length z.f2) (h3 : Kd.C k87 w a03 z.f3.length z.f3) (h4 : Kd.C Kd.string w a04 z.f4.length z.f4) :
    Calls Tryd.prog 9 #[.agg #[.int .i64 z.f0, .slice a01 z.f1.length c01, .slice a02 z.f2.length c02, .slice a03 z.f3.length c03, .slice a04 z.f4.length c04]] w fun e w' => ∃ v, e = .returned v ∧ MDv z w' v ∧ Below w.heap.size w w' := by
  refine (made_any z.f0 z.f1 z.f2 z.f3 z.f4 hz.1 hz.2 a01 a02 a03 a04 c01 c02 c03 c04 w h1 h2 h3 h4).mono ?_
  rintro e w' ⟨v9, v10, rfl, hR, hD, hB⟩
  obtain ⟨A9, c9, rfl, _, hC9⟩ := Kd.R_reads hR
  obtain ⟨A10, c10, rfl, _, hC10⟩ := Kd.R_reads hD
  exact ⟨_, rfl, ⟨A9, c9, A10, c10, rfl, hC9, hC10⟩, hB⟩
theorem told_z (z : S27) (v : Value) (w : World) (h : MDv z w v) : Calls Tryd.prog 8 #[v] w fun e w' => ∃ u, e = .returned u ∧ TDv z w' u ∧ Below w.heap.size w w' := by
  obtain ⟨A9, c9, A10, c10, rfl, h1, h2⟩ := h
  have hl := madeSecs_len z.f0 z.f1 z.f2 z.f3
  have hs := segsR_le z.f4
  refine (told_any (flagB z.f0 2) (flagB z.f0 1) 3 0 1 243 16 5 1 (madeSecs z.f0 z.f1 z.f2 z.f3) (segsR z.f4) (by omega) (by omega) (fun x hx => by have := madeSecs_in z.f0 z.f1 z.f2 z.f3 x hx; omega) A9 A10 c9 c10 w h1 h2).mono ?_
  rintro e w' ⟨v9, v10, rfl, hR, hD, hB⟩
  obtain ⟨B9, d9, rfl⟩ := Kd.R_slice hR
  obtain ⟨B10, d10, rfl⟩ := Kd.R_slice hD
  exact ⟨_, rfl, ⟨B9, d9, B10, d10, rfl, Kd.R_lower hR (Nat.zero_le _), Kd.R_lower hD (Nat.zero_le _)⟩, hB⟩
/-- An allocated block that nobody has written yet. -/
def FLt (w0 w : World) (t : Option Bool) (u : Value) (g : Nat) : Prop := t = some true → u = .pointer (some ⟨g, 0, none⟩) ∧ w.heap[g]? = some (.cells #[.bool false, .bool false, .int .u8 0, .int .u8 0, .string ⟨#[]⟩, .int .u64 0, .int .u64 0, .int .u64 0, .int .u64 0, .int .u64 0, .slice none 0 0, .slice none 0 0] 39 (0, 0)) ∧ w0.heap.size ≤ g
theorem FLt.below {w0 w w1 : World} {t : Option Bool} {u : Value} {g : Nat} (h : FLt w0 w t u g) (hb : Below w.heap.size w w1) : FLt w0 w1 t u g := fun ht => ⟨(h ht).1, blk_below (h ht).2.1 hb, (h ht).2.2⟩
theorem FLt.lt {w0 w : World} {t : Option Bool} {u : Value} {g : Nat} (h : FLt w0 w t u g) (ht : t = some true) : g < w.heap.size := blk_lt (h ht).2.1
theorem diff_t (z z' : S27) (B0 E0 B1 E1 : Option Addr) (d0 e0 d1 e1 : Nat) (w : World) (h9 : Kd.C k58 w B0 (PM z).L.length (PM z).L) (h10 : Kd.C k65 w E0 (PM z).D.length (PM z).D) (j9 : Kd.C k58 w B1 (PM z').L.length (PM z').L) (j10 : Kd.C k65 w E1 (PM z').D.length (PM z').D) :
    Calls Tryd.prog 12 #[.agg #[.bool (flagB z.f0 1), .bool (flagB z.f0 2), .int .u8 3, .int .u8 0, .string ⟨#[]⟩, .int .u64 1, .int .u64 243, .int .u64 16, .int .u64 5, .int .u64 1, .slice B0 (PM z).L.length d0, .slice E0 (PM z).D.length e0], .agg #[.bool (flagB z'.f0 1), .bool (flagB z'.f0 2), .int .u8 3, .int .u8 0, .string ⟨#[]⟩, .int .u64 1, .int .u64 243, .int .u64 16, .int .u64 5, .int .u64 1, .slice B1 (PM z').L.length d1, .slice E1 (PM z').D.length e1]] w fun e w' => e = .returned (.string (diffR (PM z) (PM z'))) ∧ Below w.heap.size w w' :=
  diff_any (PM z) (PM z') (Nat.le_trans (planM_L _ _ _ _ _) (by decide)) (Nat.le_trans (planM_D _ _ _ _ _) (by decide)) B0 E0 B1 E1 d0 e0 d1 e1 w h9 h10 j9 j10
theorem models_t (z z' : S27) (B0 E0 B1 E1 : Option Addr) (d0 e0 d1 e1 : Nat) (w : World) (h9 : Kd.C k58 w B0 (PM z).L.length (PM z).L) (h10 : Kd.C k65 w E0 (PM z).D.length (PM z).D) (j9 : Kd.C k58 w B1 (PM z').L.length (PM z').L) (j10 : Kd.C k65 w E1 (PM z').D.length (PM z').D) :
    Calls Tryd.prog 10 #[.agg #[.bool (flagB z.f0 1), .bool (flagB z.f0 2), .int .u8 3, .int .u8 0, .string ⟨#[]⟩, .int .u64 1, .int .u64 243, .int .u64 16, .int .u64 5, .int .u64 1, .slice B0 (PM z).L.length d0, .slice E0 (PM z).D.length e0], .agg #[.bool (flagB z'.f0 1), .bool (flagB z'.f0 2), .int .u8 3, .int .u8 0, .string ⟨#[]⟩, .int .u64 1, .int .u64 243, .int .u64 16, .int .u64 5, .int .u64 1, .slice B1 (PM z').L.length d1, .slice E1 (PM z').D.length e1]] w fun e w' => e = .returned (.bool (eqC (diffR (PM z) (PM z')) ⟨#[]⟩)) ∧ Below w.heap.size w w' :=
  models_any (PM z) (PM z') (Nat.le_trans (planM_L _ _ _ _ _) (by decide)) (Nat.le_trans (planM_D _ _ _ _ _) (by decide)) B0 E0 B1 E1 d0 e0 d1 e1 w h9 h10 j9 j10
theorem diffS_t (z : S27) (n0 : ByteArray) (hn : n0 = ⟨#[]⟩) (B0 E0 : Option Addr) (d0 e0 : Nat) (w : World) (h9 : Kd.C k58 w B0 (PM z).L.length (PM z).L) (h10 : Kd.C k65 w E0 (PM z).D.length (PM z).D) :
    Calls Tryd.prog 12 #[.agg #[.bool (flagB z.f0 1), .bool (flagB z.f0 2), .int .u8 3, .int .u8 0, .string ⟨#[]⟩, .int .u64 1, .int .u64 243, .int .u64 16, .int .u64 5, .int .u64 1, .slice B0 (PM z).L.length d0, .slice E0 (PM z).D.length e0], .agg #[.bool (flagB z.f0 1), .bool (flagB z.f0 2), .int .u8 3, .int .u8 0, .string ⟨#[]⟩, .int .u64 1, .int .u64 243, .int .u64 16, .int .u64 5, .int .u64 1, .slice B0 (PM z).L.length d0, .slice E0 (PM z).D.length e0]] w fun e w' => e = .returned (.string n0) ∧ Below w.heap.size w w' := by
  refine (diff_t z z B0 E0 B0 E0 d0 e0 d0 e0 w h9 h10 h9 h10).mono ?_
  rintro e w' ⟨rfl, hb⟩
  rw [diffR_nil.2 (eqM_refl _), hn]
  exact ⟨rfl, hb⟩
end Go.Proofs.YthphhogljniofaaDoor

/- Contracts over this translation: SameShares' walk. -/
namespace Go.Proofs.YthphhogljniofaaDoor
set_option linter.unusedVariables false
set_option linter.unusedSimpArgs false
open Go.RowKit Go.Proofs.YthphhogljniofaaDoorX.Kd Go.Proofs.YthphhogljniofaaDoorW.PrintWords Go.Proofs.YthphhogljniofaaDoorW.PrintLast Go.Proofs.YthphhogljniofaaDoorW.PrintMore

/-- A list of names, sorted, each once: those that only the first has. -/
def NLs (w : World) (base : Nat) (v : Value) (AL BL : List S58) (ss : List (List UInt8)) : Prop :=
  Kd.R Kd.string 9 w base (fun _ => True) v (ss.map (fun s => (⟨s.toArray⟩ : ByteArray))) ∧ ss.Pairwise (· < ·) ∧ (∀ s, s ∈ ss ↔ s ∈ onlyL BL 0 AL) ∧ ss.length ≤ 16
theorem mem_only (BL : List S58) (s : List UInt8) : ∀ (xs : List S58) (k : Nat), s ∈ onlyL BL k xs ↔ ∃ i, ∃ h : i < xs.length, 0 < k + i ∧ (findF xs[i].f0 0 BL).isSome = false ∧ xs[i].f0.data.toList = s
  | [], k => ⟨fun h => (List.not_mem_nil h).elim, fun ⟨i, h, _⟩ => absurd h (Nat.not_lt_zero i)⟩
  | x :: xs, k => by
    unfold onlyL
    rw [List.mem_append, mem_only BL s xs (k + 1)]
    constructor
    · rintro (h | ⟨i, h, h1, h2, h3⟩)
      · split at h
        · rename_i hc
          simp only [Bool.and_eq_true, decide_eq_true_eq, Bool.not_eq_true'] at hc
          exact ⟨0, by simp, hc.1, hc.2, (List.mem_singleton.1 h).symm⟩
        · cases h
      · exact ⟨i + 1, by simp; omega, by omega, h2, h3⟩
    · rintro ⟨i, h, h1, h2, h3⟩
      cases i with
      | zero =>
        left
        rw [if_pos (by simp only [Bool.and_eq_true, decide_eq_true_eq, Bool.not_eq_true']; exact ⟨h1, h2⟩)]
        exact List.mem_singleton.2 h3.symm
      | succ i => right; exact ⟨i, by simpa using h, by omega, h2, h3⟩
theorem find_some (n : ByteArray) : ∀ (xs : List S58) (k : Nat), (∃ i, ∃ h : i < xs.length, 0 < k + i ∧ xs[i].f0 = n) → (findF n k xs).isSome = true
  | [], k, ⟨i, h, _⟩ => absurd h (Nat.not_lt_zero i)
  | x :: xs, k, ⟨i, h, h1, h2⟩ => by
    unfold findF
    split
    · rfl
    · rename_i hc
      cases i with
      | zero => exact absurd ⟨h1, by rw [show x.f0 = n from h2]⟩ hc
      | succ i => exact find_some n xs (k + 1) ⟨i, by simpa using h, by omega, h2⟩
theorem ba_of (s : ByteArray) : (⟨s.data.toList.toArray⟩ : ByteArray) = s := by cases s; rfl
theorem lone_of (a b : MdD) (ha : a.L.length ≤ 16) (A9 A10 B9 B10 : Option Addr) (c9 c10 d9 d10 : Nat) (w : World) (hA9 : Kd.C k58 w A9 a.L.length a.L) (hB9 : Kd.C k58 w B9 b.L.length b.L) (base : Nat) (v : Value) (ss : List (List UInt8)) (h : NLs w base v a.L b.L ss) :
    Calls Tryd.prog 19 #[.agg #[.bool a.big, .bool a.wide, .int .u8 a.abi, .int .u8 a.ver, .string a.pad, .int .u64 a.ty, .int .u64 a.mc, .int .u64 a.en, .int .u64 a.fg, .int .u64 a.nm, .slice A9 a.L.length c9, .slice A10 a.D.length c10], .agg #[.bool b.big, .bool b.wide, .int .u8 b.abi, .int .u8 b.ver, .string b.pad, .int .u64 b.ty, .int .u64 b.mc, .int .u64 b.en, .int .u64 b.fg, .int .u64 b.nm, .slice B9 b.L.length d9, .slice B10 b.D.length d10], v] w fun e w' => e = .returned (.bool true) ∧ Below w.heap.size w w' := by
  obtain ⟨hR, hp, hm, hl⟩ := h
  obtain ⟨A, c, rfl, _, hC⟩ := Kd.R_reads hR
  refine lone_any a b ha A9 A10 B9 B10 c9 c10 d9 d10 w hA9 hB9 _ (by rw [List.length_map]; exact hl) A c hC ?_ ?_ ?_
  · intro s hs
    obtain ⟨t, ht, rfl⟩ := List.mem_map.1 hs
    obtain ⟨i, h, h1, h2, h3⟩ := (mem_only b.L t a.L 0).1 ((hm t).1 ht)
    have h4 : (⟨t.toArray⟩ : ByteArray) = a.L[i].f0 := by rw [← h3, ba_of]
    rw [h4]
    exact ⟨find_some _ _ _ ⟨i, h, h1, rfl⟩, h2⟩
  · intro i h
    simp only [List.getElem_map]
    rw [Lib.toList_data, Lib.toList_data, Go.Proofs.bytesLess_eq]
    simp only [decide_eq_true_eq]
    exact List.pairwise_iff_getElem.1 hp i (i + 1) _ _ (by omega)
  · intro k h hk hf
    have h1 := (hm a.L[k].f0.data.toList).2 ((mem_only b.L _ a.L 0).2 ⟨k, h, by omega, hf, rfl⟩)
    rw [List.any_eq_true]
    exact ⟨a.L[k].f0, List.mem_map.2 ⟨_, h1, ba_of _⟩, beq_iff_eq.2 rfl⟩
set_option maxRecDepth 100000 in
set_option maxHeartbeats 16000000 in
theorem names_any (a b : MdD) (ha : a.L.length ≤ 16) (hb : b.L.length ≤ 16) (hsa : ∀ x ∈ a.L, x.f0.size ≤ 9223372036854775807) (hsb : ∀ x ∈ b.L, x.f0.size ≤ 9223372036854775807) (A9 A10 B9 B10 : Option Addr) (c9 c10 d9 d10 : Nat) (w : World) (hA9 : Kd.C k58 w A9 a.L.length a.L) (hB9 : Kd.C k58 w B9 b.L.length b.L) :
    Calls Tryd.prog 18 #[.agg #[.bool a.big, .bool a.wide, .int .u8 a.abi, .int .u8 a.ver, .string a.pad, .int .u64 a.ty, .int .u64 a.mc, .int .u64 a.en, .int .u64 a.fg, .int .u64 a.nm, .slice A9 a.L.length c9, .slice A10 a.D.length c10], .agg #[.bool b.big, .bool b.wide, .int .u8 b.abi, .int .u8 b.ver, .string b.pad, .int .u64 b.ty, .int .u64 b.mc, .int .u64 b.en, .int .u64 b.fg, .int .u64 b.nm, .slice B9 b.L.length d9, .slice B10 b.D.length d10]] w fun e w' => ∃ v1 v2 s1 s2, e = .returned (.tuple #[v1, v2]) ∧ NLs w' w.heap.size v1 a.L b.L s1 ∧ NLs w' w.heap.size v2 b.L a.L s2 ∧ Below w.heap.size w w' := by
  have H1 := Lib.hid (fun W (h : Below w.heap.size w W) => only_any a b ha hsa A9 A10 B9 B10 c9 c10 d9 d10 W (Kd.C_below hA9 h) (Kd.C_below hB9 h))
  have H2 := Lib.hid (fun W (h : Below w.heap.size w W) => only_any b a hb hsb B9 B10 A9 A10 d9 d10 c9 c10 W (Kd.C_below hB9 h) (Kd.C_below hA9 h))
  clear hA9 hB9 hsa hsb
  go_enter Tryd.func18, Tryd.ntmps18
  go_upto_region 1 with (fail)
  obtain ⟨wA, hwA⟩ : ∃ wA, wA = (w.alloc (.cells #[.bool a.big, .bool a.wide, .int .u8 a.abi, .int .u8 a.ver, .string a.pad, .int .u64 a.ty, .int .u64 a.mc, .int .u64 a.en, .int .u64 a.fg, .int .u64 a.nm, .slice A9 a.L.length c9, .slice A10 a.D.length c10] 39)).alloc (.cells #[.bool b.big, .bool b.wide, .int .u8 b.abi, .int .u8 b.ver, .string b.pad, .int .u64 b.ty, .int .u64 b.mc, .int .u64 b.en, .int .u64 b.fg, .int .u64 b.nm, .slice B9 b.L.length d9, .slice B10 b.D.length d10] 39) := ⟨_, rfl⟩
  have HT := Lib.hid (show DSt w wA.drew #[.bool a.big, .bool a.wide, .int .u8 a.abi, .int .u8 a.ver, .string a.pad, .int .u64 a.ty, .int .u64 a.mc, .int .u64 a.en, .int .u64 a.fg, .int .u64 a.nm, .slice A9 a.L.length c9, .slice A10 a.D.length c10] #[.bool b.big, .bool b.wide, .int .u8 b.abi, .int .u8 b.ver, .string b.pad, .int .u64 b.ty, .int .u64 b.mc, .int .u64 b.en, .int .u64 b.fg, .int .u64 b.nm, .slice B9 b.L.length d9, .slice B10 b.D.length d10] from by
    have h1 := blk_new (w.alloc (.cells #[.bool a.big, .bool a.wide, .int .u8 a.abi, .int .u8 a.ver, .string a.pad, .int .u64 a.ty, .int .u64 a.mc, .int .u64 a.en, .int .u64 a.fg, .int .u64 a.nm, .slice A9 a.L.length c9, .slice A10 a.D.length c10] 39)) (.cells #[.bool b.big, .bool b.wide, .int .u8 b.abi, .int .u8 b.ver, .string b.pad, .int .u64 b.ty, .int .u64 b.mc, .int .u64 b.en, .int .u64 b.fg, .int .u64 b.nm, .slice B9 b.L.length d9, .slice B10 b.D.length d10] 39)
    rw [World.size_alloc] at h1
    rw [hwA]
    exact DSt.below (wx := (w.alloc (.cells #[.bool a.big, .bool a.wide, .int .u8 a.abi, .int .u8 a.ver, .string a.pad, .int .u64 a.ty, .int .u64 a.mc, .int .u64 a.en, .int .u64 a.fg, .int .u64 a.nm, .slice A9 a.L.length c9, .slice A10 a.D.length c10] 39)).alloc (.cells #[.bool b.big, .bool b.wide, .int .u8 b.abi, .int .u8 b.ver, .string b.pad, .int .u64 b.ty, .int .u64 b.mc, .int .u64 b.en, .int .u64 b.fg, .int .u64 b.nm, .slice B9 b.L.length d9, .slice B10 b.D.length d10] 39)) ⟨blk_alloc (blk_new w _) _, h1, ((Below.refl _ _).alloc (Nat.le_refl _) _).alloc (by simp) _⟩ (below_drew1 (Below.refl _ _)))
  rw [← hwA]
  clear hwA
  refine start_ (n := 8) (S := fun w' => w'.heap[w.heap.size]? = some (.cells #[.bool a.big, .bool a.wide, .int .u8 a.abi, .int .u8 a.ver, .string a.pad, .int .u64 a.ty, .int .u64 a.mc, .int .u64 a.en, .int .u64 a.fg, .int .u64 a.nm, .slice A9 a.L.length c9, .slice A10 a.D.length c10] 39 (0, 0)) ∧ w'.heap[w.heap.size + 1]? = some (.cells #[.bool b.big, .bool b.wide, .int .u8 b.abi, .int .u8 b.ver, .string b.pad, .int .u64 b.ty, .int .u64 b.mc, .int .u64 b.en, .int .u64 b.fg, .int .u64 b.nm, .slice B9 b.L.length d9, .slice B10 b.D.length d10] 39 (0, 0))) (ds := []) #[false, false, false, false, false, false, false, false] (by kernel_rfl) (by rfl) (by rfl) ⟨HT.out.1, HT.out.2.1⟩ (fun hHeld => ?_)
  generalize wA.drew = wd at HT hHeld ⊢
  refine take_ (i := 0) (N := some 6) (v := ?_) (a' := ?_) #[true, false, false, false, false, false, false, false] rfl rfl (by kernel_rfl) (fun _ _ _ h => h) (Or.inl ⟨by rfl, ?_⟩) hHeld ?_ ?_
  rotate_left
  · rintro w' ⟨s0, s1⟩
    have x_0 := blk_cell s0 0
    have y_0 := blk_cell s1 0
    have x_1 := blk_cell s0 1
    have y_1 := blk_cell s1 1
    have x_2 := blk_cell s0 2
    have y_2 := blk_cell s1 2
    have x_3 := blk_cell s0 3
    have y_3 := blk_cell s1 3
    have x_4 := blk_cell s0 4
    have y_4 := blk_cell s1 4
    have x_5 := blk_cell s0 5
    have y_5 := blk_cell s1 5
    have x_6 := blk_cell s0 6
    have y_6 := blk_cell s1 6
    have x_7 := blk_cell s0 7
    have y_7 := blk_cell s1 7
    have x_8 := blk_cell s0 8
    have y_8 := blk_cell s1 8
    have x_9 := blk_cell s0 9
    have y_9 := blk_cell s1 9
    have x_10 := blk_cell s0 10
    have y_10 := blk_cell s1 10
    have x_11 := blk_cell s0 11
    have y_11 := blk_cell s1 11
    simp only [List.getElem?_toArray, List.getElem?_cons_succ, List.getElem?_cons_zero] at x_0 y_0 x_1 y_1 x_2 y_2 x_3 y_3 x_4 y_4 x_5 y_5 x_6 y_6 x_7 y_7 x_8 y_8 x_9 y_9 x_10 y_10 x_11 y_11
    go_simp
    with_reducible rfl
  rotate_left
  · simp only [Act.put, List.setIfInBounds_toArray, List.set_cons_zero, List.set_cons_succ]
    rfl
  refine take_ (i := 1) (N := some 7) (v := ?_) (a' := ?_) #[true, true, false, false, false, false, false, false] rfl rfl (by kernel_rfl) (fun _ _ _ h => h) (Or.inl ⟨by rfl, ?_⟩) hHeld ?_ ?_
  rotate_left
  · rintro w' ⟨s0, s1⟩
    have x_0 := blk_cell s0 0
    have y_0 := blk_cell s1 0
    have x_1 := blk_cell s0 1
    have y_1 := blk_cell s1 1
    have x_2 := blk_cell s0 2
    have y_2 := blk_cell s1 2
    have x_3 := blk_cell s0 3
    have y_3 := blk_cell s1 3
    have x_4 := blk_cell s0 4
    have y_4 := blk_cell s1 4
    have x_5 := blk_cell s0 5
    have y_5 := blk_cell s1 5
    have x_6 := blk_cell s0 6
    have y_6 := blk_cell s1 6
    have x_7 := blk_cell s0 7
    have y_7 := blk_cell s1 7
    have x_8 := blk_cell s0 8
    have y_8 := blk_cell s1 8
    have x_9 := blk_cell s0 9
    have y_9 := blk_cell s1 9
    have x_10 := blk_cell s0 10
    have y_10 := blk_cell s1 10
    have x_11 := blk_cell s0 11
    have y_11 := blk_cell s1 11
    simp only [List.getElem?_toArray, List.getElem?_cons_succ, List.getElem?_cons_zero] at x_0 y_0 x_1 y_1 x_2 y_2 x_3 y_3 x_4 y_4 x_5 y_5 x_6 y_6 x_7 y_7 x_8 y_8 x_9 y_9 x_10 y_10 x_11 y_11
    go_simp
    with_reducible rfl
  rotate_left
  · simp only [Act.put, List.setIfInBounds_toArray, List.set_cons_zero, List.set_cons_succ]
    rfl
  refine take_ (i := 3) (N := some 9) (v := ?_) (a' := ?_) #[true, true, false, true, false, false, false, false] rfl rfl (by kernel_rfl) (fun _ _ _ h => h) (Or.inl ⟨by rfl, ?_⟩) hHeld ?_ ?_
  rotate_left
  · rintro w' ⟨s0, s1⟩
    have x_0 := blk_cell s0 0
    have y_0 := blk_cell s1 0
    have x_1 := blk_cell s0 1
    have y_1 := blk_cell s1 1
    have x_2 := blk_cell s0 2
    have y_2 := blk_cell s1 2
    have x_3 := blk_cell s0 3
    have y_3 := blk_cell s1 3
    have x_4 := blk_cell s0 4
    have y_4 := blk_cell s1 4
    have x_5 := blk_cell s0 5
    have y_5 := blk_cell s1 5
    have x_6 := blk_cell s0 6
    have y_6 := blk_cell s1 6
    have x_7 := blk_cell s0 7
    have y_7 := blk_cell s1 7
    have x_8 := blk_cell s0 8
    have y_8 := blk_cell s1 8
    have x_9 := blk_cell s0 9
    have y_9 := blk_cell s1 9
    have x_10 := blk_cell s0 10
    have y_10 := blk_cell s1 10
    have x_11 := blk_cell s0 11
    have y_11 := blk_cell s1 11
    simp only [List.getElem?_toArray, List.getElem?_cons_succ, List.getElem?_cons_zero] at x_0 y_0 x_1 y_1 x_2 y_2 x_3 y_3 x_4 y_4 x_5 y_5 x_6 y_6 x_7 y_7 x_8 y_8 x_9 y_9 x_10 y_10 x_11 y_11
    go_simp
    with_reducible rfl
  rotate_left
  · simp only [Act.put, List.setIfInBounds_toArray, List.set_cons_zero, List.set_cons_succ]
    rfl
  refine take_ (i := 4) (N := some 10) (v := ?_) (a' := ?_) #[true, true, false, true, true, false, false, false] rfl rfl (by kernel_rfl) (fun _ _ _ h => h) (Or.inl ⟨by rfl, ?_⟩) hHeld ?_ ?_
  rotate_left
  · rintro w' ⟨s0, s1⟩
    have x_0 := blk_cell s0 0
    have y_0 := blk_cell s1 0
    have x_1 := blk_cell s0 1
    have y_1 := blk_cell s1 1
    have x_2 := blk_cell s0 2
    have y_2 := blk_cell s1 2
    have x_3 := blk_cell s0 3
    have y_3 := blk_cell s1 3
    have x_4 := blk_cell s0 4
    have y_4 := blk_cell s1 4
    have x_5 := blk_cell s0 5
    have y_5 := blk_cell s1 5
    have x_6 := blk_cell s0 6
    have y_6 := blk_cell s1 6
    have x_7 := blk_cell s0 7
    have y_7 := blk_cell s1 7
    have x_8 := blk_cell s0 8
    have y_8 := blk_cell s1 8
    have x_9 := blk_cell s0 9
    have y_9 := blk_cell s1 9
    have x_10 := blk_cell s0 10
    have y_10 := blk_cell s1 10
    have x_11 := blk_cell s0 11
    have y_11 := blk_cell s1 11
    simp only [List.getElem?_toArray, List.getElem?_cons_succ, List.getElem?_cons_zero] at x_0 y_0 x_1 y_1 x_2 y_2 x_3 y_3 x_4 y_4 x_5 y_5 x_6 y_6 x_7 y_7 x_8 y_8 x_9 y_9 x_10 y_10 x_11 y_11
    go_simp
    with_reducible rfl
  rotate_left
  · simp only [Act.put, List.setIfInBounds_toArray, List.set_cons_zero, List.set_cons_succ]
    rfl
  refine one_ (i := 2) (N := some 8) #[true, true, true, true, true, false, false, false] rfl rfl (by kernel_rfl) (by decide) (fun K hK => ?_)
  refine goes_ Tryd.func31 (by kernel_rfl) rfl #[.agg #[.bool a.big, .bool a.wide, .int .u8 a.abi, .int .u8 a.ver, .string a.pad, .int .u64 a.ty, .int .u64 a.mc, .int .u64 a.en, .int .u64 a.fg, .int .u64 a.nm, .slice A9 a.L.length c9, .slice A10 a.D.length c10], .agg #[.bool b.big, .bool b.wide, .int .u8 b.abi, .int .u8 b.ver, .string b.pad, .int .u64 b.ty, .int .u64 b.mc, .int .u64 b.en, .int .u64 b.fg, .int .u64 b.nm, .slice B9 b.L.length d9, .slice B10 b.D.length d10]] (by rfl) rfl rfl (by first | rfl | (simp only [List.map_toArray, List.map_cons, List.map_nil]; rfl)) ?_
  refine (H1.out wd HT.out.2.2).mono ?_
  rintro e w1 ⟨vw1, sw1, rfl, hR, hp, hm, hl, hb⟩
  refine ⟨_, rfl, ?_⟩
  have HT1 := Lib.hid (HT.out.below hb)
  have HV1 := Lib.hid (show NLs w1 w.heap.size vw1 a.L b.L sw1 from ⟨Kd.R_lower hR HT.out.2.2.size, hp, hm, hl⟩)
  clear hR hp hm hl hb
  refine hK.out _ _ ⟨HT1.out.1, HT1.out.2.1⟩ (fun hHeld => ?_)
  clear hK K
  refine norm_ (a' := ?_) ?_ ?_
  rotate_left
  · show Act.put _ (some 8) _ = _
    simp only [Act.put, List.setIfInBounds_toArray, List.set_cons_zero, List.set_cons_succ]
    rfl
  refine one_ (i := 5) (N := some 11) #[true, true, true, true, true, true, false, false] rfl rfl (by kernel_rfl) (by decide) (fun K hK => ?_)
  refine goes_ Tryd.func31 (by kernel_rfl) rfl #[.agg #[.bool b.big, .bool b.wide, .int .u8 b.abi, .int .u8 b.ver, .string b.pad, .int .u64 b.ty, .int .u64 b.mc, .int .u64 b.en, .int .u64 b.fg, .int .u64 b.nm, .slice B9 b.L.length d9, .slice B10 b.D.length d10], .agg #[.bool a.big, .bool a.wide, .int .u8 a.abi, .int .u8 a.ver, .string a.pad, .int .u64 a.ty, .int .u64 a.mc, .int .u64 a.en, .int .u64 a.fg, .int .u64 a.nm, .slice A9 a.L.length c9, .slice A10 a.D.length c10]] (by rfl) rfl rfl (by first | rfl | (simp only [List.map_toArray, List.map_cons, List.map_nil]; rfl)) ?_
  refine (H2.out w1 HT1.out.2.2).mono ?_
  rintro e w2 ⟨vw2, sw2, rfl, hR, hp, hm, hl, hb⟩
  refine ⟨_, rfl, ?_⟩
  have HT2 := Lib.hid (HT1.out.below hb)
  have HV2 := Lib.hid (show NLs w2 w.heap.size vw2 b.L a.L sw2 from ⟨Kd.R_lower hR HT1.out.2.2.size, hp, hm, hl⟩)
  have HV1' := Lib.hid (show NLs w2 w.heap.size vw1 a.L b.L sw1 from ⟨Kd.R_below HV1.out.1 hb, HV1.out.2⟩)
  clear hR hp hm hl hb HV1
  refine hK.out _ _ ⟨HT2.out.1, HT2.out.2.1⟩ (fun hHeld => ?_)
  clear hK K
  refine norm_ (a' := ?_) ?_ ?_
  rotate_left
  · show Act.put _ (some 11) _ = _
    simp only [Act.put, List.setIfInBounds_toArray, List.set_cons_zero, List.set_cons_succ]
    rfl
  refine pure_ (i := 6) (N := some 4) (v := ?_) (a' := ?_) #[true, true, true, true, true, true, true, false] rfl rfl (by kernel_rfl) (fun _ _ _ h => h) (Or.inl ⟨by rfl, ?_⟩) ?_ ?_
  rotate_left
  · intro w'
    go_simp
    with_reducible rfl
  rotate_left
  · simp only [Act.put, List.setIfInBounds_toArray, List.set_cons_zero, List.set_cons_succ]
    rfl
  refine pure_ (i := 7) (N := some 5) (v := ?_) (a' := ?_) #[true, true, true, true, true, true, true, true] rfl rfl (by kernel_rfl) (fun _ _ _ h => h) (Or.inl ⟨by rfl, ?_⟩) ?_ ?_
  rotate_left
  · intro w'
    go_simp
    with_reducible rfl
  rotate_left
  · simp only [Act.put, List.setIfInBounds_toArray, List.set_cons_zero, List.set_cons_succ]
    rfl
  refine done_ (by kernel_rfl) ?_
  clear hHeld HT HT1
  go_wp2
  go_ret2
  exact ⟨_, _, _, _, rfl, HV1'.out, HV2.out, HT2.out.2.2⟩
theorem clean_le (s : ByteArray) : (cleanB s).size ≤ 20 := by
  show ((s.data.toList.take 20).filter _).toArray.size ≤ 20
  rw [List.size_toArray]
  exact Nat.le_trans (List.length_filter_le _ _) (by rw [List.length_take]; omega)
theorem madeSecs_name (fl : Int) (ps : List S74) (ys : List S52) (rs : List S87) : ∀ x ∈ madeSecs fl ps ys rs, x.f0.size ≤ 20 := by
  intro x hx
  unfold madeSecs at hx
  rcases List.mem_append.1 hx with hx | hx
  · unfold sectionsR at hx
    rcases List.mem_append.1 hx with hx | hx
    · simp only [List.mem_cons, List.not_mem_nil, or_false] at hx
      rcases hx with rfl | rfl <;> decide
    · obtain ⟨y, _, rfl⟩ := List.mem_map.1 hx
      exact clean_le _
  · split at hx
    · unfold moreSecs at hx
      dsimp only at hx
      rcases List.mem_append.1 hx with hx | hx
      · rcases List.mem_append.1 hx with hx | hx
        · rcases List.mem_append.1 hx with hx | hx
          · rcases List.mem_append.1 hx with hx | hx
            · split at hx
              · simp only [List.mem_cons, List.not_mem_nil, or_false] at hx; subst hx; decide
              · cases hx
            · simp only [List.mem_cons, List.not_mem_nil, or_false] at hx; subst hx; exact (by decide : 7 ≤ 20)
          · split at hx
            · simp only [List.mem_cons, List.not_mem_nil, or_false] at hx; subst hx; exact (by decide : 4 ≤ 20)
            · cases hx
        · split at hx
          · simp only [List.mem_cons, List.not_mem_nil, or_false] at hx; subst hx; exact (by decide : 6 ≤ 20)
          · cases hx
      · split at hx
        · simp only [List.mem_cons, List.not_mem_nil, or_false] at hx; subst hx; exact (by decide : 8 ≤ 20)
        · cases hx
    · cases hx
theorem PM_name (z : S27) : ∀ x ∈ (PM z).L, x.f0.size ≤ 9223372036854775807 := by
  intro x hx
  obtain ⟨y, hy, rfl⟩ := List.mem_map.1 hx
  exact Nat.le_trans (madeSecs_name z.f0 z.f1 z.f2 z.f3 y hy) (by decide)
theorem PM_L (z : S27) : (PM z).L.length ≤ 16 := Nat.le_trans (planM_L _ _ _ _ _) (by decide)
theorem shared_t (z z' : S27) (B0 E0 B1 E1 : Option Addr) (d0 e0 d1 e1 : Nat) (w : World) (h9 : Kd.C k58 w B0 (PM z).L.length (PM z).L) (j9 : Kd.C k58 w B1 (PM z').L.length (PM z').L) :
    Calls Tryd.prog 16 #[.agg #[.bool (flagB z.f0 1), .bool (flagB z.f0 2), .int .u8 3, .int .u8 0, .string ⟨#[]⟩, .int .u64 1, .int .u64 243, .int .u64 16, .int .u64 5, .int .u64 1, .slice B0 (PM z).L.length d0, .slice E0 (PM z).D.length e0], .agg #[.bool (flagB z'.f0 1), .bool (flagB z'.f0 2), .int .u8 3, .int .u8 0, .string ⟨#[]⟩, .int .u64 1, .int .u64 243, .int .u64 16, .int .u64 5, .int .u64 1, .slice B1 (PM z').L.length d1, .slice E1 (PM z').D.length e1]] w fun e w' => ∃ v, e = .returned v ∧ Kd.R (Kd.int .i64) 3 w' w.heap.size (fun _ => True) v (sharedR 0 (PM z).L (PM z').L) ∧ Below w.heap.size w w' :=
  shared_any (PM z) (PM z') (PM_L z) (PM_L z') B0 E0 B1 E1 d0 e0 d1 e1 w h9 j9
theorem names_t (z z' : S27) (B0 E0 B1 E1 : Option Addr) (d0 e0 d1 e1 : Nat) (w : World) (h9 : Kd.C k58 w B0 (PM z).L.length (PM z).L) (j9 : Kd.C k58 w B1 (PM z').L.length (PM z').L) :
    Calls Tryd.prog 18 #[.agg #[.bool (flagB z.f0 1), .bool (flagB z.f0 2), .int .u8 3, .int .u8 0, .string ⟨#[]⟩, .int .u64 1, .int .u64 243, .int .u64 16, .int .u64 5, .int .u64 1, .slice B0 (PM z).L.length d0, .slice E0 (PM z).D.length e0], .agg #[.bool (flagB z'.f0 1), .bool (flagB z'.f0 2), .int .u8 3, .int .u8 0, .string ⟨#[]⟩, .int .u64 1, .int .u64 243, .int .u64 16, .int .u64 5, .int .u64 1, .slice B1 (PM z').L.length d1, .slice E1 (PM z').D.length e1]] w fun e w' => ∃ v1 v2 s1 s2, e = .returned (.tuple #[v1, v2]) ∧ NLs w' w.heap.size v1 (PM z).L (PM z').L s1 ∧ NLs w' w.heap.size v2 (PM z').L (PM z).L s2 ∧ Below w.heap.size w w' :=
  names_any (PM z) (PM z') (PM_L z) (PM_L z') (PM_name z) (PM_name z') B0 E0 B1 E1 d0 e0 d1 e1 w h9 j9
theorem lone_t (z z' : S27) (B0 E0 B1 E1 : Option Addr) (d0 e0 d1 e1 : Nat) (w : World) (h9 : Kd.C k58 w B0 (PM z).L.length (PM z).L) (j9 : Kd.C k58 w B1 (PM z').L.length (PM z').L) (base : Nat) (v : Value) (ss : List (List UInt8)) (h : NLs w base v (PM z).L (PM z').L ss) :
    Calls Tryd.prog 19 #[.agg #[.bool (flagB z.f0 1), .bool (flagB z.f0 2), .int .u8 3, .int .u8 0, .string ⟨#[]⟩, .int .u64 1, .int .u64 243, .int .u64 16, .int .u64 5, .int .u64 1, .slice B0 (PM z).L.length d0, .slice E0 (PM z).D.length e0], .agg #[.bool (flagB z'.f0 1), .bool (flagB z'.f0 2), .int .u8 3, .int .u8 0, .string ⟨#[]⟩, .int .u64 1, .int .u64 243, .int .u64 16, .int .u64 5, .int .u64 1, .slice B1 (PM z').L.length d1, .slice E1 (PM z').D.length e1], v] w fun e w' => e = .returned (.bool true) ∧ Below w.heap.size w w' :=
  lone_of (PM z) (PM z') (PM_L z) B0 E0 B1 E1 d0 e0 d1 e1 w h9 j9 base v ss h
theorem NLs.below {w w' : World} {base : Nat} {v : Value} {AL BL : List S58} {ss : List (List UInt8)} (h : NLs w base v AL BL ss) (hb : Below w.heap.size w w') : NLs w' base v AL BL ss := ⟨Kd.R_below h.1 hb, h.2⟩
/-- Where SameShares stands: the two models' blocks. -/
def QSt (w0 wx : World) (ga gb : Nat) (AC BC : Array Value) : Prop :=
  wx.heap[ga]? = some (.cells AC 39 (0, 0)) ∧ wx.heap[gb]? = some (.cells BC 39 (0, 0)) ∧ Below w0.heap.size w0 wx
theorem QSt.below {w0 wx wy : World} {ga gb : Nat} {AC BC : Array Value} (h : QSt w0 wx ga gb AC BC) (hb : Below wx.heap.size wx wy) : QSt w0 wy ga gb AC BC :=
  ⟨blk_below h.1 hb, blk_below h.2.1 hb, h.2.2.trans (hb.mono h.2.2.size)⟩
theorem int_at {w : World} {A : Option Addr} {xs : List Int} (h : Kd.C (Kd.int .i64) w A xs.length xs) (h0 : 0 < xs.length) : ∃ ad, A = some ad ∧ ∀ j (hj : j < xs.length), w.cell? (ad.add j) = some (.int .i64 xs[j]) := by
  obtain ⟨ad, c, hA, _⟩ := Kd.C_get h 0 0 (by omega) (by omega)
  refine ⟨ad, hA, fun j hj => ?_⟩
  obtain ⟨ad2, c, hA2, hc, hK, hcl⟩ := Kd.C_get h 0 (j : Int) (by omega) (by omega)
  rw [hA] at hA2
  injection hA2 with hA2
  subst hA2
  have h1 := hcl 0 (.int .i64 xs[j]) (by
    have hK : c = [Value.int .i64 (xs.getD j 0)] := by rw [Int.toNat_natCast] at hK; exact hK
    rw [hK]
    simp [List.getD, hj])
  rw [Int.toNat_natCast] at h1
  have e : ad.add (j * (Kd.int .i64).sz + 0) = ad.add j := by show ad.add (j * 1 + 0) = _; rw [Nat.mul_one, Nat.add_zero]
  rwa [e] at h1
set_option maxRecDepth 100000 in
set_option maxHeartbeats 32000000 in
theorem shares_walk (z0 z1 : S27) (hz0 : okP z0) (hz1 : okP z1) (cs0 cs1 : List Value) (w : World) (h0 : k27.K w z0 cs0) (h1 : k27.K w z1 cs1) :
    Calls Tryd.prog 6 #[.agg cs0.toArray, .agg cs1.toArray] w fun e w' => e = .returned (.bool true) ∧ Below w.heap.size w w' := by
  obtain ⟨a01, c01, a02, c02, a03, c03, a04, c04, rfl, g1, g2, g3, g4⟩ := k27_open h0
  have H01 := Lib.hid g1
  have H02 := Lib.hid g2
  have H03 := Lib.hid g3
  have H04 := Lib.hid g4
  clear g1 g2 g3 g4
  obtain ⟨a11, c11, a12, c12, a13, c13, a14, c14, rfl, g1, g2, g3, g4⟩ := k27_open h1
  have H11 := Lib.hid g1
  have H12 := Lib.hid g2
  have H13 := Lib.hid g3
  have H14 := Lib.hid g4
  clear g1 g2 g3 g4
  go_enter Tryd.func6, Tryd.ntmps6
  go_upto_region 3 with (first | (go_at_call 7; refine (speaks_any _).mono ?_; rintro e w1 ⟨rfl, hb1⟩; have HB1 := Lib.hid hb1; clear hb1))
  have HP1 := Lib.hid (show (w1.heap[w.heap.size]? = some (.cells #[.int .i64 z0.f0, .slice a01 z0.f1.length c01, .slice a02 z0.f2.length c02, .slice a03 z0.f3.length c03, .slice a04 z0.f4.length c04] 27 (0, 0)) ∧ w1.heap[w.heap.size + 1]? = some (.cells #[.int .i64 z1.f0, .slice a11 z1.f1.length c11, .slice a12 z1.f2.length c12, .slice a13 z1.f3.length c13, .slice a14 z1.f4.length c14] 27 (0, 0))) ∧ Below w.heap.size w w1 from by
    have h0 := blk_new w (.cells #[.int .i64 z0.f0, .slice a01 z0.f1.length c01, .slice a02 z0.f2.length c02, .slice a03 z0.f3.length c03, .slice a04 z0.f4.length c04] 27)
    have h1 := blk_new (w.alloc (.cells #[.int .i64 z0.f0, .slice a01 z0.f1.length c01, .slice a02 z0.f2.length c02, .slice a03 z0.f3.length c03, .slice a04 z0.f4.length c04] 27)) (.cells #[.int .i64 z1.f0, .slice a11 z1.f1.length c11, .slice a12 z1.f2.length c12, .slice a13 z1.f3.length c13, .slice a14 z1.f4.length c14] 27)
    rw [World.size_alloc] at h1
    exact ⟨⟨blk_below (blk_alloc h0 _) HB1.out, blk_below h1 HB1.out⟩, ((below_alloc (below_alloc (Below.refl w.heap.size w) _) _) : Below w.heap.size w _).trans (HB1.out.mono (by simp; omega))⟩)
  clear HB1
  have HPd := Lib.hid (show (w1.drew.heap[w.heap.size]? = some (.cells #[.int .i64 z0.f0, .slice a01 z0.f1.length c01, .slice a02 z0.f2.length c02, .slice a03 z0.f3.length c03, .slice a04 z0.f4.length c04] 27 (0, 0)) ∧ w1.drew.heap[w.heap.size + 1]? = some (.cells #[.int .i64 z1.f0, .slice a11 z1.f1.length c11, .slice a12 z1.f2.length c12, .slice a13 z1.f3.length c13, .slice a14 z1.f4.length c14] 27 (0, 0))) ∧ Below w.heap.size w w1.drew from ⟨⟨blk_drew HP1.out.1.1, blk_drew HP1.out.1.2⟩, below_drew1 HP1.out.2⟩)
  refine start_ (n := 10) (S := fun w' => w'.heap[w.heap.size]? = some (.cells #[.int .i64 z0.f0, .slice a01 z0.f1.length c01, .slice a02 z0.f2.length c02, .slice a03 z0.f3.length c03, .slice a04 z0.f4.length c04] 27 (0, 0)) ∧ w'.heap[w.heap.size + 1]? = some (.cells #[.int .i64 z1.f0, .slice a11 z1.f1.length c11, .slice a12 z1.f2.length c12, .slice a13 z1.f3.length c13, .slice a14 z1.f4.length c14] 27 (0, 0))) (ds := [8, 9]) #[false, false, false, false, false, false, false, false, false, false] (by kernel_rfl) (by rfl) (by rfl) HPd.out.1 (fun hHeld => ?_)
  generalize w1.drew = wd at HPd hHeld ⊢
  clear HP1
  refine take_ (i := 0) (N := some 14) (v := ?_) (a' := ?_) #[true, false, false, false, false, false, false, false, false, false] rfl rfl (by kernel_rfl) (fun _ _ _ h => h) (Or.inl ⟨by rfl, ?_⟩) hHeld ?_ ?_
  rotate_left
  · rintro w' ⟨s0, s1⟩
    have x_0 := blk_cell s0 0
    have x_1 := blk_cell s0 1
    have x_2 := blk_cell s0 2
    have x_3 := blk_cell s0 3
    have x_4 := blk_cell s0 4
    have y_0 := blk_cell s1 0
    have y_1 := blk_cell s1 1
    have y_2 := blk_cell s1 2
    have y_3 := blk_cell s1 3
    have y_4 := blk_cell s1 4
    simp only [List.getElem?_toArray, List.getElem?_cons_succ, List.getElem?_cons_zero] at x_0 x_1 x_2 x_3 x_4 y_0 y_1 y_2 y_3 y_4
    go_simp
    with_reducible rfl
  rotate_left
  · simp only [Act.put, List.setIfInBounds_toArray, List.set_cons_zero, List.set_cons_succ]
    rfl
  refine take_ (i := 3) (N := some 17) (v := ?_) (a' := ?_) #[true, false, false, true, false, false, false, false, false, false] rfl rfl (by kernel_rfl) (fun _ _ _ h => h) (Or.inl ⟨by rfl, ?_⟩) hHeld ?_ ?_
  rotate_left
  · rintro w' ⟨s0, s1⟩
    have x_0 := blk_cell s0 0
    have x_1 := blk_cell s0 1
    have x_2 := blk_cell s0 2
    have x_3 := blk_cell s0 3
    have x_4 := blk_cell s0 4
    have y_0 := blk_cell s1 0
    have y_1 := blk_cell s1 1
    have y_2 := blk_cell s1 2
    have y_3 := blk_cell s1 3
    have y_4 := blk_cell s1 4
    simp only [List.getElem?_toArray, List.getElem?_cons_succ, List.getElem?_cons_zero] at x_0 x_1 x_2 x_3 x_4 y_0 y_1 y_2 y_3 y_4
    go_simp
    with_reducible rfl
  rotate_left
  · simp only [Act.put, List.setIfInBounds_toArray, List.set_cons_zero, List.set_cons_succ]
    rfl
  have hm0 : #[true, false, false, true, false, false, false, false, false, false] = maskF 10 [0, 3] [1, 2, 4, 5] [6, 7] 0 [false, false] := by kernel_rfl
  rw [hm0]
  clear hm0 hHeld
  refine floats0 10 [0, 3] [1, 2, 4, 5] [6, 7] (by kernel_rfl) (fun a0 c b a w' => ∃ (u5 u6 x15 x16 x18 x19 : Value) (g5 g6 : Nat), a = Go.Proofs.YthphhogljniofaaDoorW.PrintLast.putAll a0 [(5, u5), (6, u6), (15, x15), (16, x16), (18, x18), (19, x19)] ∧ ((w'.heap[w.heap.size]? = some (.cells #[.int .i64 z0.f0, .slice a01 z0.f1.length c01, .slice a02 z0.f2.length c02, .slice a03 z0.f3.length c03, .slice a04 z0.f4.length c04] 27 (0, 0)) ∧ w'.heap[w.heap.size + 1]? = some (.cells #[.int .i64 z1.f0, .slice a11 z1.f1.length c11, .slice a12 z1.f2.length c12, .slice a13 z1.f3.length c13, .slice a14 z1.f4.length c14] 27 (0, 0))) ∧ Below w.heap.size w w') ∧ ((c = 1 → MDv z0 w' x15) ∧ (2 ≤ c → TDv z0 w' x16) ∧ (c = 3 → MDv z1 w' x18) ∧ (4 ≤ c → TDv z1 w' x19)) ∧ (FLt w w' b[0]? u5 g5 ∧ FLt w w' b[1]? u6 g6) ∧ ((b[0]? = some true → b[1]? = some true → g5 ≠ g6))) ?hSt ?hmain ?hfl 2 ?hend 6 [false, false] rfl rfl ?h0
  case hSt => rintro c b a w' ⟨u5, u6, x15, x16, x18, x19, g5, g6, _, h1, _⟩; exact h1.1
  case h0 => exact ⟨undef, undef, undef, undef, undef, undef, 0, 0, by simp only [Go.Proofs.YthphhogljniofaaDoorW.PrintLast.putAll, Act.put, List.setIfInBounds_toArray, List.set_cons_zero, List.set_cons_succ], HPd.out, ⟨(by intro h; omega), (by intro h; omega), (by intro h; omega), (by intro h; omega)⟩, ⟨(by intro h; cases h), (by intro h; cases h)⟩, (by intro h; cases h)⟩
  case hmain =>
    intro c i b a w' hi hst
    rcases c with _ | _ | _ | _ | c
    · obtain rfl : 1 = i := by simpa using hi
      obtain ⟨u5, u6, x15, x16, x18, x19, g5, g6, rfl, ⟨hP, hB⟩, ⟨hc0, hc1, hc2, hc3⟩, ⟨hf0, hf1⟩, hn0⟩ := hst
      simp only [Go.Proofs.YthphhogljniofaaDoorW.PrintLast.putAll, Act.put, List.setIfInBounds_toArray, List.set_cons_zero, List.set_cons_succ]
      refine op_step (N := some 15) rfl rfl (fun K hK => ?_)
      refine goes_ (N := some 15) Tryd.func9 (by kernel_rfl) rfl #[.agg #[.int .i64 z0.f0, .slice a01 z0.f1.length c01, .slice a02 z0.f2.length c02, .slice a03 z0.f3.length c03, .slice a04 z0.f4.length c04]] (by rfl) rfl rfl (by first | rfl | (simp only [List.map_toArray, List.map_cons, List.map_nil]; rfl)) ?_
      refine (made_z z0 hz0 _ _ _ _ _ _ _ _ w' (Kd.C_below H01.out hB) (Kd.C_below H02.out hB) (Kd.C_below H03.out hB) (Kd.C_below H04.out hB)).mono ?_
      rintro e w2 ⟨v, rfl, hM, hB2⟩
      refine ⟨_, rfl, hK _ _ ⟨u5, u6, v, x16, x18, x19, g5, g6, by simp only [Go.Proofs.YthphhogljniofaaDoorW.PrintLast.putAll, Act.put, List.setIfInBounds_toArray, List.set_cons_zero, List.set_cons_succ], ⟨⟨blk_below hP.1 hB2, blk_below hP.2 hB2⟩, hB.trans (hB2.mono hB.size)⟩, ⟨(fun _ => hM), (fun h => absurd h (by omega)), (fun h => absurd h (by omega)), (fun h => absurd h (by omega))⟩, ⟨hf0.below hB2, hf1.below hB2⟩, hn0⟩⟩
    · obtain rfl : 2 = i := by simpa using hi
      obtain ⟨u5, u6, x15, x16, x18, x19, g5, g6, rfl, ⟨hP, hB⟩, ⟨hc0, hc1, hc2, hc3⟩, ⟨hf0, hf1⟩, hn0⟩ := hst
      simp only [Go.Proofs.YthphhogljniofaaDoorW.PrintLast.putAll, Act.put, List.setIfInBounds_toArray, List.set_cons_zero, List.set_cons_succ]
      refine op_step (N := some 16) rfl rfl (fun K hK => ?_)
      refine goes_ (N := some 16) Tryd.func8 (by kernel_rfl) rfl #[x15] (by rfl) rfl rfl (by first | rfl | (simp only [List.map_toArray, List.map_cons, List.map_nil]; rfl)) ?_
      refine (told_z z0 x15 w' (hc0 rfl)).mono ?_
      rintro e w2 ⟨v, rfl, hM, hB2⟩
      refine ⟨_, rfl, hK _ _ ⟨u5, u6, x15, v, x18, x19, g5, g6, by simp only [Go.Proofs.YthphhogljniofaaDoorW.PrintLast.putAll, Act.put, List.setIfInBounds_toArray, List.set_cons_zero, List.set_cons_succ], ⟨⟨blk_below hP.1 hB2, blk_below hP.2 hB2⟩, hB.trans (hB2.mono hB.size)⟩, ⟨(fun h => absurd h (by omega)), (fun _ => hM), (fun h => absurd h (by omega)), (fun h => absurd h (by omega))⟩, ⟨hf0.below hB2, hf1.below hB2⟩, hn0⟩⟩
    · obtain rfl : 4 = i := by simpa using hi
      obtain ⟨u5, u6, x15, x16, x18, x19, g5, g6, rfl, ⟨hP, hB⟩, ⟨hc0, hc1, hc2, hc3⟩, ⟨hf0, hf1⟩, hn0⟩ := hst
      simp only [Go.Proofs.YthphhogljniofaaDoorW.PrintLast.putAll, Act.put, List.setIfInBounds_toArray, List.set_cons_zero, List.set_cons_succ]
      refine op_step (N := some 18) rfl rfl (fun K hK => ?_)
      refine goes_ (N := some 18) Tryd.func9 (by kernel_rfl) rfl #[.agg #[.int .i64 z1.f0, .slice a11 z1.f1.length c11, .slice a12 z1.f2.length c12, .slice a13 z1.f3.length c13, .slice a14 z1.f4.length c14]] (by rfl) rfl rfl (by first | rfl | (simp only [List.map_toArray, List.map_cons, List.map_nil]; rfl)) ?_
      refine (made_z z1 hz1 _ _ _ _ _ _ _ _ w' (Kd.C_below H11.out hB) (Kd.C_below H12.out hB) (Kd.C_below H13.out hB) (Kd.C_below H14.out hB)).mono ?_
      rintro e w2 ⟨v, rfl, hM, hB2⟩
      refine ⟨_, rfl, hK _ _ ⟨u5, u6, x15, x16, v, x19, g5, g6, by simp only [Go.Proofs.YthphhogljniofaaDoorW.PrintLast.putAll, Act.put, List.setIfInBounds_toArray, List.set_cons_zero, List.set_cons_succ], ⟨⟨blk_below hP.1 hB2, blk_below hP.2 hB2⟩, hB.trans (hB2.mono hB.size)⟩, ⟨(fun h => absurd h (by omega)), (fun h => (hc1 (by omega)).below hB2), (fun _ => hM), (fun h => absurd h (by omega))⟩, ⟨hf0.below hB2, hf1.below hB2⟩, hn0⟩⟩
    · obtain rfl : 5 = i := by simpa using hi
      obtain ⟨u5, u6, x15, x16, x18, x19, g5, g6, rfl, ⟨hP, hB⟩, ⟨hc0, hc1, hc2, hc3⟩, ⟨hf0, hf1⟩, hn0⟩ := hst
      simp only [Go.Proofs.YthphhogljniofaaDoorW.PrintLast.putAll, Act.put, List.setIfInBounds_toArray, List.set_cons_zero, List.set_cons_succ]
      refine op_step (N := some 19) rfl rfl (fun K hK => ?_)
      refine goes_ (N := some 19) Tryd.func8 (by kernel_rfl) rfl #[x18] (by rfl) rfl rfl (by first | rfl | (simp only [List.map_toArray, List.map_cons, List.map_nil]; rfl)) ?_
      refine (told_z z1 x18 w' (hc2 rfl)).mono ?_
      rintro e w2 ⟨v, rfl, hM, hB2⟩
      refine ⟨_, rfl, hK _ _ ⟨u5, u6, x15, x16, x18, v, g5, g6, by simp only [Go.Proofs.YthphhogljniofaaDoorW.PrintLast.putAll, Act.put, List.setIfInBounds_toArray, List.set_cons_zero, List.set_cons_succ], ⟨⟨blk_below hP.1 hB2, blk_below hP.2 hB2⟩, hB.trans (hB2.mono hB.size)⟩, ⟨(fun h => absurd h (by omega)), (fun h => (hc1 (by omega)).below hB2), (fun h => absurd h (by omega)), (fun _ => hM)⟩, ⟨hf0.below hB2, hf1.below hB2⟩, hn0⟩⟩
    · simp at hi
  case hfl =>
    intro c j i b a w' hi hbl hbj hst
    obtain ⟨b0, b1, rfl⟩ : ∃ b0 b1, b = [b0, b1] := by
      match b, hbl with
      | [b0, b1], _ => exact ⟨b0, b1, rfl⟩
    rcases j with _ | _ | j
    · obtain rfl : 6 = i := by simpa using hi
      obtain ⟨u5, u6, x15, x16, x18, x19, g5, g6, rfl, ⟨hP, hB⟩, ⟨hc0, hc1, hc2, hc3⟩, ⟨hf0, hf1⟩, hn0⟩ := hst
      simp only [Go.Proofs.YthphhogljniofaaDoorW.PrintLast.putAll, Act.put, List.setIfInBounds_toArray, List.set_cons_zero, List.set_cons_succ]
      refine op_step (N := some 5) rfl rfl (fun K hK => ?_)
      refine value_ (N := some 5) (w1 := ?_) (v := ?_) (by rfl) rfl ?_ ?_
      rotate_left 2
      · go_simp
        constructor
        · rfl
        · rfl
      refine hK _ _ ⟨.pointer (some ⟨w'.heap.size, 0, none⟩), u6, x15, x16, x18, x19, w'.heap.size, g6, by simp only [Go.Proofs.YthphhogljniofaaDoorW.PrintLast.putAll, Act.put, List.setIfInBounds_toArray, List.set_cons_zero, List.set_cons_succ], ⟨⟨blk_alloc hP.1 _, blk_alloc hP.2 _⟩, below_alloc hB _⟩, ⟨(fun h => (hc0 h).below (below_alloc (Below.refl _ _) _)), (fun h => (hc1 h).below (below_alloc (Below.refl _ _) _)), (fun h => (hc2 h).below (below_alloc (Below.refl _ _) _)), (fun h => (hc3 h).below (below_alloc (Below.refl _ _) _))⟩, ⟨(fun _ => ⟨rfl, blk_new w' _, hB.size⟩), hf1.below (below_alloc (Below.refl _ _) _)⟩, (fun _ h => (Nat.ne_of_lt (hf1.lt h)).symm)⟩
    · obtain rfl : 7 = i := by simpa using hi
      obtain ⟨u5, u6, x15, x16, x18, x19, g5, g6, rfl, ⟨hP, hB⟩, ⟨hc0, hc1, hc2, hc3⟩, ⟨hf0, hf1⟩, hn0⟩ := hst
      simp only [Go.Proofs.YthphhogljniofaaDoorW.PrintLast.putAll, Act.put, List.setIfInBounds_toArray, List.set_cons_zero, List.set_cons_succ]
      refine op_step (N := some 6) rfl rfl (fun K hK => ?_)
      refine value_ (N := some 6) (w1 := ?_) (v := ?_) (by rfl) rfl ?_ ?_
      rotate_left 2
      · go_simp
        constructor
        · rfl
        · rfl
      refine hK _ _ ⟨u5, .pointer (some ⟨w'.heap.size, 0, none⟩), x15, x16, x18, x19, g5, w'.heap.size, by simp only [Go.Proofs.YthphhogljniofaaDoorW.PrintLast.putAll, Act.put, List.setIfInBounds_toArray, List.set_cons_zero, List.set_cons_succ], ⟨⟨blk_alloc hP.1 _, blk_alloc hP.2 _⟩, below_alloc hB _⟩, ⟨(fun h => (hc0 h).below (below_alloc (Below.refl _ _) _)), (fun h => (hc1 h).below (below_alloc (Below.refl _ _) _)), (fun h => (hc2 h).below (below_alloc (Below.refl _ _) _)), (fun h => (hc3 h).below (below_alloc (Below.refl _ _) _))⟩, ⟨hf0.below (below_alloc (Below.refl _ _) _), (fun _ => ⟨rfl, blk_new w' _, hB.size⟩)⟩, (fun h _ => Nat.ne_of_lt (hf0.lt h))⟩
    · simp at hi
  case hend =>
    intro b a w' hbl hall hst
    obtain ⟨b0, b1, rfl⟩ : ∃ b0 b1, b = [b0, b1] := by
      match b, hbl with
      | [b0, b1], _ => exact ⟨b0, b1, rfl⟩
    have hb3 : b0 = true ∧ b1 = true := by simpa using hall
    obtain ⟨rfl, rfl⟩ := hb3
    obtain ⟨u5, u6, x15, x16, x18, x19, g5, g6, rfl, ⟨hP, hB⟩, ⟨hc0, hc1, hc2, hc3⟩, ⟨hf0, hf1⟩, hn0⟩ := hst
    obtain ⟨B0, d0, E0, e0, rfl, hC0, hD0⟩ := hc1 (by decide)
    obtain ⟨B1, d1, E1, e1, rfl, hC1, hD1⟩ := hc3 (by decide)
    obtain ⟨rfl, hY0, hG0⟩ := hf0 rfl
    obtain ⟨rfl, hY1, hG1⟩ := hf1 rfl
    have hne01 := hn0 rfl rfl
    clear hall hbl hc0 hc2 hn0
    have hm1 : maskF 10 [0, 3] [1, 2, 4, 5] [6, 7] 4 [true, true] = #[true, true, true, true, true, true, true, true, false, false] := by kernel_rfl
    refine Eq.mpr (congrArg (fun l => wpAnyLast _ _ _ _ _ _ _ l _ _) hm1) ?_
    clear hm1
    simp only [Go.Proofs.YthphhogljniofaaDoorW.PrintLast.putAll, Act.put, List.setIfInBounds_toArray, List.set_cons_zero, List.set_cons_succ]
    have h0 := blk_cell hY0 0
    have f0 := blk_frozen hY0 0
    have h1 := blk_cell hY0 1
    have f1 := blk_frozen hY0 1
    have h2 := blk_cell hY0 2
    have f2 := blk_frozen hY0 2
    have h3 := blk_cell hY0 3
    have f3 := blk_frozen hY0 3
    have h4 := blk_cell hY0 4
    have f4 := blk_frozen hY0 4
    have h5 := blk_cell hY0 5
    have f5 := blk_frozen hY0 5
    have h6 := blk_cell hY0 6
    have f6 := blk_frozen hY0 6
    have h7 := blk_cell hY0 7
    have f7 := blk_frozen hY0 7
    have h8 := blk_cell hY0 8
    have f8 := blk_frozen hY0 8
    have h9 := blk_cell hY0 9
    have f9 := blk_frozen hY0 9
    have h10 := blk_cell hY0 10
    have f10 := blk_frozen hY0 10
    have h11 := blk_cell hY0 11
    have f11 := blk_frozen hY0 11
    simp only [List.getElem?_toArray, List.getElem?_cons_succ, List.getElem?_cons_zero] at h0 h1 h2 h3 h4 h5 h6 h7 h8 h9 h10 h11
    obtain ⟨W0, hW0⟩ : ∃ W0, W0 = putAll w' g5 0 [.bool (flagB z0.f0 1), .bool (flagB z0.f0 2), .int .u8 3, .int .u8 0, .string ⟨#[]⟩, .int .u64 1, .int .u64 243, .int .u64 16, .int .u64 5, .int .u64 1, .slice B0 (PM z0).L.length d0, .slice E0 (PM z0).D.length e0] := ⟨_, rfl⟩
    have hZ0 := putAll_new (w := w') [.bool false, .bool false, .int .u8 0, .int .u8 0, .string ⟨#[]⟩, .int .u64 0, .int .u64 0, .int .u64 0, .int .u64 0, .int .u64 0, .slice none 0 0, .slice none 0 0] [.bool (flagB z0.f0 1), .bool (flagB z0.f0 2), .int .u8 3, .int .u8 0, .string ⟨#[]⟩, .int .u64 1, .int .u64 243, .int .u64 16, .int .u64 5, .int .u64 1, .slice B0 (PM z0).L.length d0, .slice E0 (PM z0).D.length e0] hY0 rfl
    rw [← hW0] at hZ0
    have hY1' := (putAll_far (w := w') (g := g5) hne01.symm [.bool (flagB z0.f0 1), .bool (flagB z0.f0 2), .int .u8 3, .int .u8 0, .string ⟨#[]⟩, .int .u64 1, .int .u64 243, .int .u64 16, .int .u64 5, .int .u64 1, .slice B0 (PM z0).L.length d0, .slice E0 (PM z0).D.length e0] 0 _).trans hY1
    rw [← hW0] at hY1'
    clear hY1
    have hY1 := hY1'
    clear hY1'
    have hC0' := putAll_RT hC0 hY0 (by decide) [.bool (flagB z0.f0 1), .bool (flagB z0.f0 2), .int .u8 3, .int .u8 0, .string ⟨#[]⟩, .int .u64 1, .int .u64 243, .int .u64 16, .int .u64 5, .int .u64 1, .slice B0 (PM z0).L.length d0, .slice E0 (PM z0).D.length e0] 0
    rw [← hW0] at hC0'
    clear hC0
    have hC0 := hC0'
    clear hC0'
    have hD0' := putAll_RT hD0 hY0 (by decide) [.bool (flagB z0.f0 1), .bool (flagB z0.f0 2), .int .u8 3, .int .u8 0, .string ⟨#[]⟩, .int .u64 1, .int .u64 243, .int .u64 16, .int .u64 5, .int .u64 1, .slice B0 (PM z0).L.length d0, .slice E0 (PM z0).D.length e0] 0
    rw [← hW0] at hD0'
    clear hD0
    have hD0 := hD0'
    clear hD0'
    have hC1' := putAll_RT hC1 hY0 (by decide) [.bool (flagB z0.f0 1), .bool (flagB z0.f0 2), .int .u8 3, .int .u8 0, .string ⟨#[]⟩, .int .u64 1, .int .u64 243, .int .u64 16, .int .u64 5, .int .u64 1, .slice B0 (PM z0).L.length d0, .slice E0 (PM z0).D.length e0] 0
    rw [← hW0] at hC1'
    clear hC1
    have hC1 := hC1'
    clear hC1'
    have hD1' := putAll_RT hD1 hY0 (by decide) [.bool (flagB z0.f0 1), .bool (flagB z0.f0 2), .int .u8 3, .int .u8 0, .string ⟨#[]⟩, .int .u64 1, .int .u64 243, .int .u64 16, .int .u64 5, .int .u64 1, .slice B0 (PM z0).L.length d0, .slice E0 (PM z0).D.length e0] 0
    rw [← hW0] at hD1'
    clear hD1
    have hD1 := hD1'
    clear hD1'
    have hB0 := putAll_below hG0 [.bool (flagB z0.f0 1), .bool (flagB z0.f0 2), .int .u8 3, .int .u8 0, .string ⟨#[]⟩, .int .u64 1, .int .u64 243, .int .u64 16, .int .u64 5, .int .u64 1, .slice B0 (PM z0).L.length d0, .slice E0 (PM z0).D.length e0] 0 w' hB
    rw [← hW0] at hB0
    clear hB
    have hB := hB0
    clear hB0
    have hW0' := hW0
    simp only [putAll, Nat.reduceAdd] at hW0'
    clear hW0
    refine last_ (i := 8) (N := none) #[true, true, true, true, true, true, true, true, true, false] rfl rfl (by kernel_rfl) (by decide) (fun K hK => ?_)
    refine skip_ (w1 := ?_) (by rfl) rfl ?_ ?_
    rotate_left
    · go_simp
      rfl
    refine hK.out _ _ ?_
    clear hK K
    rw [← hW0']
    clear hW0' h0 f0 h1 f1 h2 f2 h3 f3 h4 f4 h5 f5 h6 f6 h7 f7 h8 f8 h9 f9 h10 f10 h11 f11
    have h0 := blk_cell hY1 0
    have f0 := blk_frozen hY1 0
    have h1 := blk_cell hY1 1
    have f1 := blk_frozen hY1 1
    have h2 := blk_cell hY1 2
    have f2 := blk_frozen hY1 2
    have h3 := blk_cell hY1 3
    have f3 := blk_frozen hY1 3
    have h4 := blk_cell hY1 4
    have f4 := blk_frozen hY1 4
    have h5 := blk_cell hY1 5
    have f5 := blk_frozen hY1 5
    have h6 := blk_cell hY1 6
    have f6 := blk_frozen hY1 6
    have h7 := blk_cell hY1 7
    have f7 := blk_frozen hY1 7
    have h8 := blk_cell hY1 8
    have f8 := blk_frozen hY1 8
    have h9 := blk_cell hY1 9
    have f9 := blk_frozen hY1 9
    have h10 := blk_cell hY1 10
    have f10 := blk_frozen hY1 10
    have h11 := blk_cell hY1 11
    have f11 := blk_frozen hY1 11
    simp only [List.getElem?_toArray, List.getElem?_cons_succ, List.getElem?_cons_zero] at h0 h1 h2 h3 h4 h5 h6 h7 h8 h9 h10 h11
    obtain ⟨W1, hW1⟩ : ∃ W1, W1 = putAll W0 g6 0 [.bool (flagB z1.f0 1), .bool (flagB z1.f0 2), .int .u8 3, .int .u8 0, .string ⟨#[]⟩, .int .u64 1, .int .u64 243, .int .u64 16, .int .u64 5, .int .u64 1, .slice B1 (PM z1).L.length d1, .slice E1 (PM z1).D.length e1] := ⟨_, rfl⟩
    have hZ1 := putAll_new (w := W0) [.bool false, .bool false, .int .u8 0, .int .u8 0, .string ⟨#[]⟩, .int .u64 0, .int .u64 0, .int .u64 0, .int .u64 0, .int .u64 0, .slice none 0 0, .slice none 0 0] [.bool (flagB z1.f0 1), .bool (flagB z1.f0 2), .int .u8 3, .int .u8 0, .string ⟨#[]⟩, .int .u64 1, .int .u64 243, .int .u64 16, .int .u64 5, .int .u64 1, .slice B1 (PM z1).L.length d1, .slice E1 (PM z1).D.length e1] hY1 rfl
    rw [← hW1] at hZ1
    have hZ0' := (putAll_far (w := W0) (g := g6) hne01 [.bool (flagB z1.f0 1), .bool (flagB z1.f0 2), .int .u8 3, .int .u8 0, .string ⟨#[]⟩, .int .u64 1, .int .u64 243, .int .u64 16, .int .u64 5, .int .u64 1, .slice B1 (PM z1).L.length d1, .slice E1 (PM z1).D.length e1] 0 _).trans hZ0
    rw [← hW1] at hZ0'
    clear hZ0
    have hZ0 := hZ0'
    clear hZ0'
    have hC0' := putAll_RT hC0 hY1 (by decide) [.bool (flagB z1.f0 1), .bool (flagB z1.f0 2), .int .u8 3, .int .u8 0, .string ⟨#[]⟩, .int .u64 1, .int .u64 243, .int .u64 16, .int .u64 5, .int .u64 1, .slice B1 (PM z1).L.length d1, .slice E1 (PM z1).D.length e1] 0
    rw [← hW1] at hC0'
    clear hC0
    have hC0 := hC0'
    clear hC0'
    have hD0' := putAll_RT hD0 hY1 (by decide) [.bool (flagB z1.f0 1), .bool (flagB z1.f0 2), .int .u8 3, .int .u8 0, .string ⟨#[]⟩, .int .u64 1, .int .u64 243, .int .u64 16, .int .u64 5, .int .u64 1, .slice B1 (PM z1).L.length d1, .slice E1 (PM z1).D.length e1] 0
    rw [← hW1] at hD0'
    clear hD0
    have hD0 := hD0'
    clear hD0'
    have hC1' := putAll_RT hC1 hY1 (by decide) [.bool (flagB z1.f0 1), .bool (flagB z1.f0 2), .int .u8 3, .int .u8 0, .string ⟨#[]⟩, .int .u64 1, .int .u64 243, .int .u64 16, .int .u64 5, .int .u64 1, .slice B1 (PM z1).L.length d1, .slice E1 (PM z1).D.length e1] 0
    rw [← hW1] at hC1'
    clear hC1
    have hC1 := hC1'
    clear hC1'
    have hD1' := putAll_RT hD1 hY1 (by decide) [.bool (flagB z1.f0 1), .bool (flagB z1.f0 2), .int .u8 3, .int .u8 0, .string ⟨#[]⟩, .int .u64 1, .int .u64 243, .int .u64 16, .int .u64 5, .int .u64 1, .slice B1 (PM z1).L.length d1, .slice E1 (PM z1).D.length e1] 0
    rw [← hW1] at hD1'
    clear hD1
    have hD1 := hD1'
    clear hD1'
    have hB1 := putAll_below hG1 [.bool (flagB z1.f0 1), .bool (flagB z1.f0 2), .int .u8 3, .int .u8 0, .string ⟨#[]⟩, .int .u64 1, .int .u64 243, .int .u64 16, .int .u64 5, .int .u64 1, .slice B1 (PM z1).L.length d1, .slice E1 (PM z1).D.length e1] 0 W0 hB
    rw [← hW1] at hB1
    clear hB
    have hB := hB1
    clear hB1
    have hW1' := hW1
    simp only [putAll, Nat.reduceAdd] at hW1'
    clear hW1
    refine last_ (i := 9) (N := none) #[true, true, true, true, true, true, true, true, true, true] rfl rfl (by kernel_rfl) (by decide) (fun K hK => ?_)
    refine skip_ (w1 := ?_) (by rfl) rfl ?_ ?_
    rotate_left
    · go_simp
      rfl
    refine hK.out _ _ ?_
    clear hK K
    rw [← hW1']
    clear hW1' h0 f0 h1 f1 h2 f2 h3 f3 h4 f4 h5 f5 h6 f6 h7 f7 h8 f8 h9 f9 h10 f10 h11 f11
    refine done_ (by kernel_rfl) ?_
    have HM0 := Lib.hid hZ0
    have HL0 := Lib.hid (Kd.R_reads' hC0).2.2
    have HS0 := Lib.hid (Kd.R_reads' hD0).2.2
    have HM1 := Lib.hid hZ1
    have HL1 := Lib.hid (Kd.R_reads' hC1).2.2
    have HS1 := Lib.hid (Kd.R_reads' hD1).2.2
    have HBW := Lib.hid hB
    clear hB hP hZ0 hC0 hD0 hG0 hZ1 hC1 hD1 hG1
    go_upto_region 4 with (fail)
    have HSH := Lib.hid (fun W (hb : Below W1.heap.size W1 W) => shared_t z0 z1 B0 E0 B1 E1 d0 e0 d1 e1 W (Kd.C_below HL0.out hb) (Kd.C_below HL1.out hb))
    have HQ0 := Lib.hid (show QSt W1 W1 g5 g6 #[.bool (flagB z0.f0 1), .bool (flagB z0.f0 2), .int .u8 3, .int .u8 0, .string ⟨#[]⟩, .int .u64 1, .int .u64 243, .int .u64 16, .int .u64 5, .int .u64 1, .slice B0 (PM z0).L.length d0, .slice E0 (PM z0).D.length e0] #[.bool (flagB z1.f0 1), .bool (flagB z1.f0 2), .int .u8 3, .int .u8 0, .string ⟨#[]⟩, .int .u64 1, .int .u64 243, .int .u64 16, .int .u64 5, .int .u64 1, .slice B1 (PM z1).L.length d1, .slice E1 (PM z1).D.length e1] from ⟨HM0.out, HM1.out, Below.refl _ _⟩)
    clear HM0 HM1
    have x_0 := blk_cell HQ0.out.1 0
    have y_0 := blk_cell HQ0.out.2.1 0
    have x_1 := blk_cell HQ0.out.1 1
    have y_1 := blk_cell HQ0.out.2.1 1
    have x_2 := blk_cell HQ0.out.1 2
    have y_2 := blk_cell HQ0.out.2.1 2
    have x_3 := blk_cell HQ0.out.1 3
    have y_3 := blk_cell HQ0.out.2.1 3
    have x_4 := blk_cell HQ0.out.1 4
    have y_4 := blk_cell HQ0.out.2.1 4
    have x_5 := blk_cell HQ0.out.1 5
    have y_5 := blk_cell HQ0.out.2.1 5
    have x_6 := blk_cell HQ0.out.1 6
    have y_6 := blk_cell HQ0.out.2.1 6
    have x_7 := blk_cell HQ0.out.1 7
    have y_7 := blk_cell HQ0.out.2.1 7
    have x_8 := blk_cell HQ0.out.1 8
    have y_8 := blk_cell HQ0.out.2.1 8
    have x_9 := blk_cell HQ0.out.1 9
    have y_9 := blk_cell HQ0.out.2.1 9
    have x_10 := blk_cell HQ0.out.1 10
    have y_10 := blk_cell HQ0.out.2.1 10
    have x_11 := blk_cell HQ0.out.1 11
    have y_11 := blk_cell HQ0.out.2.1 11
    simp only [List.getElem?_toArray, List.getElem?_cons_succ, List.getElem?_cons_zero] at x_0 y_0 x_1 y_1 x_2 y_2 x_3 y_3 x_4 y_4 x_5 y_5 x_6 y_6 x_7 y_7 x_8 y_8 x_9 y_9 x_10 y_10 x_11 y_11
    go_upto_region 5 with (first | (go_at_call 16; refine (HSH.out _ HQ0.out.2.2).mono ?_; rintro e w1 ⟨v, rfl, hR, hb⟩; have HQ1 := Lib.hid (HQ0.out.below hb); have HRS := Lib.hid hR; clear hR hb))
    obtain ⟨AS, cS, rfl, _, hCS⟩ := Kd.R_reads HRS.out
    obtain ⟨ls, hls⟩ : ∃ ls, ls = sharedR 0 (PM z0).L (PM z1).L := ⟨_, rfl⟩
    rw [← hls] at hCS
    rw [← hls]
    have HCS := Lib.hid hCS
    have HLS := Lib.hid hls
    clear hCS HRS HSH hls x_0 y_0 x_1 y_1 x_2 y_2 x_3 y_3 x_4 y_4 x_5 y_5 x_6 y_6 x_7 y_7 x_8 y_8 x_9 y_9 x_10 y_10 x_11 y_11
    have HA9 := Lib.hid (Kd.C_below HL0.out HQ1.out.2.2)
    have HB9 := Lib.hid (Kd.C_below HL1.out HQ1.out.2.2)
    clear HL0 HL1
    have hPa : (PM z0).L.length ≤ 16 := PM_L z0
    have hPb : (PM z1).L.length ≤ 16 := PM_L z1
    obtain ⟨LA, hLA⟩ : ∃ LA, LA = (PM z0).L := ⟨_, rfl⟩
    obtain ⟨LB, hLB⟩ : ∃ LB, LB = (PM z1).L := ⟨_, rfl⟩
    obtain ⟨DA, hDA⟩ : ∃ DA, DA = (PM z0).D := ⟨_, rfl⟩
    obtain ⟨DB, hDB⟩ : ∃ DB, DB = (PM z1).D := ⟨_, rfl⟩
    have HNA := Lib.hid (fun W (hb : Below w1.heap.size w1 W) => names_t z0 z1 B0 E0 B1 E1 d0 e0 d1 e1 W (Kd.C_below HA9.out hb) (Kd.C_below HB9.out hb))
    have HLO := Lib.hid (fun W (hb : Below w1.heap.size w1 W) base v ss (h : NLs W base v (PM z0).L (PM z1).L ss) => lone_t z0 z1 B0 E0 B1 E1 d0 e0 d1 e1 W (Kd.C_below HA9.out hb) (Kd.C_below HB9.out hb) base v ss h)
    have HLP := Lib.hid (fun W (hb : Below w1.heap.size w1 W) base v ss (h : NLs W base v (PM z1).L (PM z0).L ss) => lone_t z1 z0 B1 E1 B0 E0 d1 e1 d0 e0 W (Kd.C_below HB9.out hb) (Kd.C_below HA9.out hb) base v ss h)
    rw [← hLA, ← hLB, ← hDA, ← hDB] at HNA HLO HLP HQ1
    rw [← hLA, ← hLB] at HLS
    rw [← hLA] at HA9 hPa
    rw [← hLB] at HB9 hPb
    clear hLA hLB hDA hDB
    go_wp2
    go_loopw [8, 9] (fun n i wr => ∃ (k : Nat) (XS : List Int), n = .int .i64 XS.length ∧ i = .int .i64 k ∧ Hid (QSt w1 wr g5 g6 #[.bool (flagB z0.f0 1), .bool (flagB z0.f0 2), .int .u8 3, .int .u8 0, .string ⟨#[]⟩, .int .u64 1, .int .u64 243, .int .u64 16, .int .u64 5, .int .u64 1, .slice B0 LA.length d0, .slice E0 DA.length e0] #[.bool (flagB z1.f0 1), .bool (flagB z1.f0 2), .int .u8 3, .int .u8 0, .string ⟨#[]⟩, .int .u64 1, .int .u64 243, .int .u64 16, .int .u64 5, .int .u64 1, .slice B1 LB.length d1, .slice E1 DB.length e1] ∧ ls = XS ++ sharedR k (LA.drop k) (LB.drop k)) ∧ XS.length ≤ k ∧ k ≤ 16) (fun _ i _ => LA.length - (intOf i).toNat)
    case atStart => exact ⟨0, [], rfl, rfl, Lib.hid ⟨⟨HQ1.out.1, HQ1.out.2.1, Below.refl _ _⟩, HLS.out⟩, Nat.le_refl _, by omega⟩
    case round =>
      obtain ⟨k, XS, rfl, rfl, HR, hxk, hk16⟩ := hrel
      have x10 := blk_cell HR.out.1.1 10
      have y10 := blk_cell HR.out.1.2.1 10
      simp only [List.getElem?_toArray, List.getElem?_cons_succ, List.getElem?_cons_zero] at x10 y10
      by_cases hla : k < LA.length
      · by_cases hlb : k < LB.length
        · obtain ⟨ad, A0, a0, A1, a1, A2, a2, hA, o0, o1, o2, o3, o4, o5, o6, o7, o8, o9, o10, o11, o12, l0, g0, l1, g1, l2, g2⟩ := at_T58 HA9.out (k : Int) (by omega) (by omega)
          obtain ⟨bd, Q0, b0, Q1, b1, Q2, b2, hB, n0, n1, n2, n3, n4, n5, n6, n7, n8, n9, n10, n11, n12, m0, j0, m1, j1, m2, j2⟩ := at_T58 HB9.out (k : Int) (by omega) (by omega)
          rw [Int.toNat_natCast] at o0 o1 o2 o3 o4 o5 o6 o7 o8 o9 o10 o11 o12 n0 n1 n2 n3 n4 n5 n6 n7 n8 n9 n10 n11 n12
          obtain ⟨x, hxe⟩ : ∃ x, x = rd_T58 LA (k : Int) := ⟨_, rfl⟩
          obtain ⟨y, hye⟩ : ∃ y, y = rd_T58 LB (k : Int) := ⟨_, rfl⟩
          have HX := Lib.hid (show LA[k] = x by rw [hxe]; unfold rd_T58; rw [Int.toNat_natCast]; simp [List.getD, hla])
          have HY := Lib.hid (show LB[k] = y by rw [hye]; unfold rd_T58; rw [Int.toNat_natCast]; simp [List.getD, hlb])
          rw [← hxe] at o0 o1 o2 o3 o4 o5 o6 o7 o8 o9 o10 o11 o12 l0 g0 l1 g1 l2 g2
          rw [← hye] at n0 n1 n2 n3 n4 n5 n6 n7 n8 n9 n10 n11 n12 m0 j0 m1 j1 m2 j2
          clear hxe hye
          subst hA
          subst hB
          have HG := Lib.hid (fun W (hb : Below w1.heap.size w1 W) => equal_any x y A0 A1 A2 Q0 Q1 Q2 a0 a1 a2 b0 b1 b2 W (Kd.C_below g0 hb) (Kd.C_below g1 hb) (Kd.C_below g2 hb) (Kd.C_below j0 hb) (Kd.C_below j1 hb) (Kd.C_below j2 hb))
          clear l0 g0 l1 g1 l2 g2 m0 j0 m1 j1 m2 j2
          go_upto_region 9 with (fail)
          clear x10 y10
          obtain ⟨wd, hwd⟩ : ∃ wd, wd = wr.drew := ⟨_, rfl⟩
          have HTd := Lib.hid (show QSt w1 wd g5 g6 _ _ from by rw [hwd]; exact HR.out.1.below (below_drew1 (Below.refl _ _)))
          have HEQ := Lib.hid HR.out.2
          clear HR
          have p0 := (HTd.out.2.2.cell (World.block_lt_of_cell? w1 _ o0)).trans o0
          have q0 := (HTd.out.2.2.cell (World.block_lt_of_cell? w1 _ n0)).trans n0
          have p1 := (HTd.out.2.2.cell (World.block_lt_of_cell? w1 _ o1)).trans o1
          have q1 := (HTd.out.2.2.cell (World.block_lt_of_cell? w1 _ n1)).trans n1
          have p2 := (HTd.out.2.2.cell (World.block_lt_of_cell? w1 _ o2)).trans o2
          have q2 := (HTd.out.2.2.cell (World.block_lt_of_cell? w1 _ n2)).trans n2
          have p3 := (HTd.out.2.2.cell (World.block_lt_of_cell? w1 _ o3)).trans o3
          have q3 := (HTd.out.2.2.cell (World.block_lt_of_cell? w1 _ n3)).trans n3
          have p4 := (HTd.out.2.2.cell (World.block_lt_of_cell? w1 _ o4)).trans o4
          have q4 := (HTd.out.2.2.cell (World.block_lt_of_cell? w1 _ n4)).trans n4
          have p5 := (HTd.out.2.2.cell (World.block_lt_of_cell? w1 _ o5)).trans o5
          have q5 := (HTd.out.2.2.cell (World.block_lt_of_cell? w1 _ n5)).trans n5
          have p6 := (HTd.out.2.2.cell (World.block_lt_of_cell? w1 _ o6)).trans o6
          have q6 := (HTd.out.2.2.cell (World.block_lt_of_cell? w1 _ n6)).trans n6
          have p7 := (HTd.out.2.2.cell (World.block_lt_of_cell? w1 _ o7)).trans o7
          have q7 := (HTd.out.2.2.cell (World.block_lt_of_cell? w1 _ n7)).trans n7
          have p8 := (HTd.out.2.2.cell (World.block_lt_of_cell? w1 _ o8)).trans o8
          have q8 := (HTd.out.2.2.cell (World.block_lt_of_cell? w1 _ n8)).trans n8
          have p9 := (HTd.out.2.2.cell (World.block_lt_of_cell? w1 _ o9)).trans o9
          have q9 := (HTd.out.2.2.cell (World.block_lt_of_cell? w1 _ n9)).trans n9
          have p10 := (HTd.out.2.2.cell (World.block_lt_of_cell? w1 _ o10)).trans o10
          have q10 := (HTd.out.2.2.cell (World.block_lt_of_cell? w1 _ n10)).trans n10
          have p11 := (HTd.out.2.2.cell (World.block_lt_of_cell? w1 _ o11)).trans o11
          have q11 := (HTd.out.2.2.cell (World.block_lt_of_cell? w1 _ n11)).trans n11
          have p12 := (HTd.out.2.2.cell (World.block_lt_of_cell? w1 _ o12)).trans o12
          have q12 := (HTd.out.2.2.cell (World.block_lt_of_cell? w1 _ n12)).trans n12
          rw [hwd] at HTd p0 q0 p1 q1 p2 q2 p3 q3 p4 q4 p5 q5 p6 q6 p7 q7 p8 q8 p9 q9 p10 q10 p11 q11 p12 q12
          refine start_ (n := 12) (S := fun w' => w'.cell? ⟨g5, 10, none⟩ = some (.slice (some ad) LA.length d0) ∧ w'.cell? ⟨g6, 10, none⟩ = some (.slice (some bd) LB.length d1) ∧ w'.cell? (ad.add (k * 13)) = some (.string x.f0) ∧ w'.cell? ⟨(ad.add (k * 13)).block, (ad.add (k * 13)).off + 1, none⟩ = some (.int .u64 x.f1) ∧ w'.cell? ⟨(ad.add (k * 13)).block, (ad.add (k * 13)).off + 2, none⟩ = some (.int .u64 x.f2) ∧ w'.cell? ⟨(ad.add (k * 13)).block, (ad.add (k * 13)).off + 3, none⟩ = some (.int .u64 x.f3) ∧ w'.cell? ⟨(ad.add (k * 13)).block, (ad.add (k * 13)).off + 4, none⟩ = some (.int .u64 x.f4) ∧ w'.cell? ⟨(ad.add (k * 13)).block, (ad.add (k * 13)).off + 5, none⟩ = some (.int .u64 x.f5) ∧ w'.cell? ⟨(ad.add (k * 13)).block, (ad.add (k * 13)).off + 6, none⟩ = some (.int .u64 x.f6) ∧ w'.cell? ⟨(ad.add (k * 13)).block, (ad.add (k * 13)).off + 7, none⟩ = some (.int .u64 x.f7) ∧ w'.cell? ⟨(ad.add (k * 13)).block, (ad.add (k * 13)).off + 8, none⟩ = some (.int .u64 x.f8) ∧ w'.cell? ⟨(ad.add (k * 13)).block, (ad.add (k * 13)).off + 9, none⟩ = some (.string x.f9) ∧ w'.cell? ⟨(ad.add (k * 13)).block, (ad.add (k * 13)).off + 10, none⟩ = some (.slice A0 x.f10.length a0) ∧ w'.cell? ⟨(ad.add (k * 13)).block, (ad.add (k * 13)).off + 11, none⟩ = some (.slice A1 x.f11.length a1) ∧ w'.cell? ⟨(ad.add (k * 13)).block, (ad.add (k * 13)).off + 12, none⟩ = some (.slice A2 x.f12.length a2) ∧ w'.cell? (bd.add (k * 13)) = some (.string y.f0) ∧ w'.cell? ⟨(bd.add (k * 13)).block, (bd.add (k * 13)).off + 1, none⟩ = some (.int .u64 y.f1) ∧ w'.cell? ⟨(bd.add (k * 13)).block, (bd.add (k * 13)).off + 2, none⟩ = some (.int .u64 y.f2) ∧ w'.cell? ⟨(bd.add (k * 13)).block, (bd.add (k * 13)).off + 3, none⟩ = some (.int .u64 y.f3) ∧ w'.cell? ⟨(bd.add (k * 13)).block, (bd.add (k * 13)).off + 4, none⟩ = some (.int .u64 y.f4) ∧ w'.cell? ⟨(bd.add (k * 13)).block, (bd.add (k * 13)).off + 5, none⟩ = some (.int .u64 y.f5) ∧ w'.cell? ⟨(bd.add (k * 13)).block, (bd.add (k * 13)).off + 6, none⟩ = some (.int .u64 y.f6) ∧ w'.cell? ⟨(bd.add (k * 13)).block, (bd.add (k * 13)).off + 7, none⟩ = some (.int .u64 y.f7) ∧ w'.cell? ⟨(bd.add (k * 13)).block, (bd.add (k * 13)).off + 8, none⟩ = some (.int .u64 y.f8) ∧ w'.cell? ⟨(bd.add (k * 13)).block, (bd.add (k * 13)).off + 9, none⟩ = some (.string y.f9) ∧ w'.cell? ⟨(bd.add (k * 13)).block, (bd.add (k * 13)).off + 10, none⟩ = some (.slice Q0 y.f10.length b0) ∧ w'.cell? ⟨(bd.add (k * 13)).block, (bd.add (k * 13)).off + 11, none⟩ = some (.slice Q1 y.f11.length b1) ∧ w'.cell? ⟨(bd.add (k * 13)).block, (bd.add (k * 13)).off + 12, none⟩ = some (.slice Q2 y.f12.length b2)) (ds := []) #[false, false, false, false, false, false, false, false, false, false, false, false] (by kernel_rfl) (by rfl) (by rfl) ⟨blk_cell HTd.out.1 10, blk_cell HTd.out.2.1 10, p0, p1, p2, p3, p4, p5, p6, p7, p8, p9, p10, p11, p12, q0, q1, q2, q3, q4, q5, q6, q7, q8, q9, q10, q11, q12⟩ (fun hHeld => ?_)
          rw [← hwd] at HTd p0 q0 p1 q1 p2 q2 p3 q3 p4 q4 p5 q5 p6 q6 p7 q7 p8 q8 p9 q9 p10 q10 p11 q11 p12 q12 hHeld ⊢
          clear hwd
          refine pure_ (i := 0) (N := some 37) (v := ?_) (a' := ?_) #[true, false, false, false, false, false, false, false, false, false, false, false] rfl rfl (by kernel_rfl) (fun _ _ _ h => h) (Or.inl ⟨by rfl, ?_⟩) ?_ ?_
          rotate_left
          · intro w'
            go_simp
            with_reducible rfl
          rotate_left
          · simp only [Act.put, List.setIfInBounds_toArray, List.set_cons_zero, List.set_cons_succ]
            rfl
          refine pure_ (i := 2) (N := some 39) (v := ?_) (a' := ?_) #[true, false, true, false, false, false, false, false, false, false, false, false] rfl rfl (by kernel_rfl) (fun _ _ _ h => h) (Or.inl ⟨by rfl, ?_⟩) ?_ ?_
          rotate_left
          · intro w'
            go_simp
            with_reducible rfl
          rotate_left
          · simp only [Act.put, List.setIfInBounds_toArray, List.set_cons_zero, List.set_cons_succ]
            rfl
          refine pure_ (i := 5) (N := some 42) (v := ?_) (a' := ?_) #[true, false, true, false, false, true, false, false, false, false, false, false] rfl rfl (by kernel_rfl) (fun _ _ _ h => h) (Or.inl ⟨by rfl, ?_⟩) ?_ ?_
          rotate_left
          · intro w'
            go_simp
            with_reducible rfl
          rotate_left
          · simp only [Act.put, List.setIfInBounds_toArray, List.set_cons_zero, List.set_cons_succ]
            rfl
          refine pure_ (i := 7) (N := some 44) (v := ?_) (a' := ?_) #[true, false, true, false, false, true, false, true, false, false, false, false] rfl rfl (by kernel_rfl) (fun _ _ _ h => h) (Or.inl ⟨by rfl, ?_⟩) ?_ ?_
          rotate_left
          · intro w'
            go_simp
            with_reducible rfl
          rotate_left
          · simp only [Act.put, List.setIfInBounds_toArray, List.set_cons_zero, List.set_cons_succ]
            rfl
          refine take_ (i := 1) (N := some 38) (v := ?_) (a' := ?_) #[true, true, true, false, false, true, false, true, false, false, false, false] rfl rfl (by kernel_rfl) (fun _ _ _ h => h) (Or.inl ⟨by rfl, ?_⟩) hHeld ?_ ?_
          rotate_left
          · rintro w' ⟨s0, s1, s2, s3, s4, s5, s6, s7, s8, s9, s10, s11, s12, s13, s14, s15, s16, s17, s18, s19, s20, s21, s22, s23, s24, s25, s26, s27⟩
            go_simp
            with_reducible rfl
          rotate_left
          · simp only [Act.put, List.setIfInBounds_toArray, List.set_cons_zero, List.set_cons_succ]
            rfl
          refine take_ (i := 6) (N := some 43) (v := ?_) (a' := ?_) #[true, true, true, false, false, true, true, true, false, false, false, false] rfl rfl (by kernel_rfl) (fun _ _ _ h => h) (Or.inl ⟨by rfl, ?_⟩) hHeld ?_ ?_
          rotate_left
          · rintro w' ⟨s0, s1, s2, s3, s4, s5, s6, s7, s8, s9, s10, s11, s12, s13, s14, s15, s16, s17, s18, s19, s20, s21, s22, s23, s24, s25, s26, s27⟩
            go_simp
            with_reducible rfl
          rotate_left
          · simp only [Act.put, List.setIfInBounds_toArray, List.set_cons_zero, List.set_cons_succ]
            rfl
          refine pure_ (i := 3) (N := some 40) (v := ?_) (a' := ?_) #[true, true, true, true, false, true, true, true, false, false, false, false] rfl rfl (by kernel_rfl) (fun _ _ _ h => h) (Or.inl ⟨by rfl, ?_⟩) ?_ ?_
          rotate_left
          · intro w'
            go_simp
            with_reducible rfl
          rotate_left
          · simp only [Act.put, List.setIfInBounds_toArray, List.set_cons_zero, List.set_cons_succ]
            rfl
          refine pure_ (i := 8) (N := some 45) (v := ?_) (a' := ?_) #[true, true, true, true, false, true, true, true, true, false, false, false] rfl rfl (by kernel_rfl) (fun _ _ _ h => h) (Or.inl ⟨by rfl, ?_⟩) ?_ ?_
          rotate_left
          · intro w'
            go_simp
            with_reducible rfl
          rotate_left
          · simp only [Act.put, List.setIfInBounds_toArray, List.set_cons_zero, List.set_cons_succ]
            rfl
          refine take_ (i := 4) (N := some 41) (v := ?_) (a' := ?_) #[true, true, true, true, true, true, true, true, true, false, false, false] rfl rfl (by kernel_rfl) (fun _ _ _ h => h) (Or.inl ⟨by rfl, ?_⟩) hHeld ?_ ?_
          rotate_left
          · rintro w' ⟨s0, s1, s2, s3, s4, s5, s6, s7, s8, s9, s10, s11, s12, s13, s14, s15, s16, s17, s18, s19, s20, s21, s22, s23, s24, s25, s26, s27⟩
            go_simp
            with_reducible rfl
          rotate_left
          · simp only [Act.put, List.setIfInBounds_toArray, List.set_cons_zero, List.set_cons_succ]
            rfl
          refine take_ (i := 9) (N := some 46) (v := ?_) (a' := ?_) #[true, true, true, true, true, true, true, true, true, true, false, false] rfl rfl (by kernel_rfl) (fun _ _ _ h => h) (Or.inl ⟨by rfl, ?_⟩) hHeld ?_ ?_
          rotate_left
          · rintro w' ⟨s0, s1, s2, s3, s4, s5, s6, s7, s8, s9, s10, s11, s12, s13, s14, s15, s16, s17, s18, s19, s20, s21, s22, s23, s24, s25, s26, s27⟩
            go_simp
            with_reducible rfl
          rotate_left
          · simp only [Act.put, List.setIfInBounds_toArray, List.set_cons_zero, List.set_cons_succ]
            rfl
          refine one_ (i := 10) (N := some 47) #[true, true, true, true, true, true, true, true, true, true, true, false] rfl rfl (by kernel_rfl) (by decide) (fun K hK => ?_)
          refine goes_ Tryd.func17 (by kernel_rfl) rfl #[.agg #[.string x.f0, .int .u64 x.f1, .int .u64 x.f2, .int .u64 x.f3, .int .u64 x.f4, .int .u64 x.f5, .int .u64 x.f6, .int .u64 x.f7, .int .u64 x.f8, .string x.f9, .slice A0 x.f10.length a0, .slice A1 x.f11.length a1, .slice A2 x.f12.length a2], .agg #[.string y.f0, .int .u64 y.f1, .int .u64 y.f2, .int .u64 y.f3, .int .u64 y.f4, .int .u64 y.f5, .int .u64 y.f6, .int .u64 y.f7, .int .u64 y.f8, .string y.f9, .slice Q0 y.f10.length b0, .slice Q1 y.f11.length b1, .slice Q2 y.f12.length b2]] (by rfl) rfl rfl (by first | rfl | (simp only [List.map_toArray, List.map_cons, List.map_nil]; rfl)) ?_
          refine (HG.out wd HTd.out.2.2).mono ?_
          rintro e w2 ⟨rfl, hb1⟩
          refine ⟨_, rfl, ?_⟩
          have HT2 := Lib.hid (HTd.out.below hb1)
          refine hK.out _ _ ⟨blk_cell HT2.out.1 10, blk_cell HT2.out.2.1 10, (hb1.cell (World.block_lt_of_cell? wd _ p0)).trans p0, (hb1.cell (World.block_lt_of_cell? wd _ p1)).trans p1, (hb1.cell (World.block_lt_of_cell? wd _ p2)).trans p2, (hb1.cell (World.block_lt_of_cell? wd _ p3)).trans p3, (hb1.cell (World.block_lt_of_cell? wd _ p4)).trans p4, (hb1.cell (World.block_lt_of_cell? wd _ p5)).trans p5, (hb1.cell (World.block_lt_of_cell? wd _ p6)).trans p6, (hb1.cell (World.block_lt_of_cell? wd _ p7)).trans p7, (hb1.cell (World.block_lt_of_cell? wd _ p8)).trans p8, (hb1.cell (World.block_lt_of_cell? wd _ p9)).trans p9, (hb1.cell (World.block_lt_of_cell? wd _ p10)).trans p10, (hb1.cell (World.block_lt_of_cell? wd _ p11)).trans p11, (hb1.cell (World.block_lt_of_cell? wd _ p12)).trans p12, (hb1.cell (World.block_lt_of_cell? wd _ q0)).trans q0, (hb1.cell (World.block_lt_of_cell? wd _ q1)).trans q1, (hb1.cell (World.block_lt_of_cell? wd _ q2)).trans q2, (hb1.cell (World.block_lt_of_cell? wd _ q3)).trans q3, (hb1.cell (World.block_lt_of_cell? wd _ q4)).trans q4, (hb1.cell (World.block_lt_of_cell? wd _ q5)).trans q5, (hb1.cell (World.block_lt_of_cell? wd _ q6)).trans q6, (hb1.cell (World.block_lt_of_cell? wd _ q7)).trans q7, (hb1.cell (World.block_lt_of_cell? wd _ q8)).trans q8, (hb1.cell (World.block_lt_of_cell? wd _ q9)).trans q9, (hb1.cell (World.block_lt_of_cell? wd _ q10)).trans q10, (hb1.cell (World.block_lt_of_cell? wd _ q11)).trans q11, (hb1.cell (World.block_lt_of_cell? wd _ q12)).trans q12⟩ (fun hHeld => ?_)
          clear hK K
          obtain ⟨nb, hnb⟩ : ∃ nb : Bool, eqC x y = nb := ⟨_, rfl⟩
          rw [hnb]
          refine norm_ (a' := ?_) ?_ ?_
          rotate_left
          · show Act.put _ (some 47) _ = _
            simp only [Act.put, List.setIfInBounds_toArray, List.set_cons_zero, List.set_cons_succ]
            rfl
          refine pure_ (i := 11) (N := some 48) (v := ?_) (a' := ?_) #[true, true, true, true, true, true, true, true, true, true, true, true] rfl rfl (by kernel_rfl) (fun _ _ _ h => h) (Or.inl ⟨by rfl, ?_⟩) ?_ ?_
          rotate_left
          · intro w'
            go_simp
            with_reducible rfl
          rotate_left
          · simp only [Act.put, List.setIfInBounds_toArray, List.set_cons_zero, List.set_cons_succ]
            rfl
          refine done_ (by kernel_rfl) ?_
          clear hb1 p0 q0 o0 n0 p1 q1 o1 n1 p2 q2 o2 n2 p3 q3 o3 n3 p4 q4 o4 n4 p5 q5 o5 n5 p6 q6 o6 n6 p7 q7 o7 n7 p8 q8 o8 n8 p9 q9 o9 n9 p10 q10 o10 n10 p11 q11 o11 n11 p12 q12 o12 n12 hHeld HTd
          have HST := Lib.hid (show sharedR k (LA.drop k) (LB.drop k) = (if nb = true then [(k : Int)] else []) ++ sharedR (k + 1) (LA.drop (k + 1)) (LB.drop (k + 1)) by
            rw [List.drop_eq_getElem_cons hla, List.drop_eq_getElem_cons hlb, HX.out, HY.out, sharedR_cons, hnb])
          clear hnb HG HX HY
          have hk15 : k < 16 := by omega
          cases nb
          · go_wp2
            go_roundw
            case rel => exact ⟨k + 1, XS, rfl, by go_num, Lib.hid ⟨HT2.out, by rw [HEQ.out, HST.out]; simp⟩, by omega, by omega⟩
            case measure => simp [intOf]; omega
          · have hls2 : ls = XS ++ ((k : Int) :: sharedR (k + 1) (LA.drop (k + 1)) (LB.drop (k + 1))) := by rw [HEQ.out, HST.out]; simp
            have hnl : XS.length < ls.length := by rw [hls2]; simp
            have hnl2 : ¬ (ls.length ≤ XS.length) := by omega
            have hnl3 : ¬ ((ls.length : Int) ≤ (XS.length : Int)) := by omega
            have hnl4 : decide ((ls.length : Int) ≤ (XS.length : Int)) = false := by simp; omega
            have hnl5 : decide (ls.length ≤ XS.length) = false := by simp; omega
            obtain ⟨al, hal, hcl⟩ := int_at HCS.out (by omega)
            subst hal
            have o2 := hcl XS.length hnl
            have hat : ls[XS.length] = (k : Int) := by simp [hls2]
            rw [hat] at o2
            have q2 := (HT2.out.2.2.cell (World.block_lt_of_cell? w1 _ o2)).trans o2
            have HLS2 := Lib.hid hls2
            clear hls2 o2 hcl hat
            have hkk : ((k : Int) != (k : Int)) = false := bne_self_eq_false _
            go_wp2
            go_roundw
            case rel => exact ⟨k + 1, XS ++ [(k : Int)], by simp, by go_num, Lib.hid ⟨HT2.out, by rw [HLS2.out, List.append_assoc]; try rfl⟩, by simp; omega, by omega⟩
            case measure => simp [intOf]; omega
        · have HF := Lib.hid (show ls.length = XS.length by rw [HR.out.2, sharedR_nil _ _ _ (Or.inr (List.drop_eq_nil_of_le (by omega)))]; simp)
          have HT3 := Lib.hid HR.out.1
          clear HR
          go_upto_region 13 with (fail)
          clear x10 y10
          have x_0 := blk_cell HT3.out.1 0
          have y_0 := blk_cell HT3.out.2.1 0
          have x_1 := blk_cell HT3.out.1 1
          have y_1 := blk_cell HT3.out.2.1 1
          have x_2 := blk_cell HT3.out.1 2
          have y_2 := blk_cell HT3.out.2.1 2
          have x_3 := blk_cell HT3.out.1 3
          have y_3 := blk_cell HT3.out.2.1 3
          have x_4 := blk_cell HT3.out.1 4
          have y_4 := blk_cell HT3.out.2.1 4
          have x_5 := blk_cell HT3.out.1 5
          have y_5 := blk_cell HT3.out.2.1 5
          have x_6 := blk_cell HT3.out.1 6
          have y_6 := blk_cell HT3.out.2.1 6
          have x_7 := blk_cell HT3.out.1 7
          have y_7 := blk_cell HT3.out.2.1 7
          have x_8 := blk_cell HT3.out.1 8
          have y_8 := blk_cell HT3.out.2.1 8
          have x_9 := blk_cell HT3.out.1 9
          have y_9 := blk_cell HT3.out.2.1 9
          have x_10 := blk_cell HT3.out.1 10
          have y_10 := blk_cell HT3.out.2.1 10
          have x_11 := blk_cell HT3.out.1 11
          have y_11 := blk_cell HT3.out.2.1 11
          simp only [List.getElem?_toArray, List.getElem?_cons_succ, List.getElem?_cons_zero] at x_0 y_0 x_1 y_1 x_2 y_2 x_3 y_3 x_4 y_4 x_5 y_5 x_6 y_6 x_7 y_7 x_8 y_8 x_9 y_9 x_10 y_10 x_11 y_11
          go_upto_region 14 with (first | (go_at_call 18; refine (HNA.out _ HT3.out.2.2).mono ?_; rintro e w3 ⟨v1, v2, s1, s2, rfl, hN1, hN2, hb⟩; have HT4 := Lib.hid (HT3.out.below hb); have HN1 := Lib.hid hN1; have HN2 := Lib.hid hN2; clear hN1 hN2 hb))
          clear x_0 y_0 x_1 y_1 x_2 y_2 x_3 y_3 x_4 y_4 x_5 y_5 x_6 y_6 x_7 y_7 x_8 y_8 x_9 y_9 x_10 y_10 x_11 y_11
          have hl1 : (XS.length : Int) = (ls.length : Int) := by have := HF.out; omega
          have x_0 := blk_cell HT4.out.1 0
          have y_0 := blk_cell HT4.out.2.1 0
          have x_1 := blk_cell HT4.out.1 1
          have y_1 := blk_cell HT4.out.2.1 1
          have x_2 := blk_cell HT4.out.1 2
          have y_2 := blk_cell HT4.out.2.1 2
          have x_3 := blk_cell HT4.out.1 3
          have y_3 := blk_cell HT4.out.2.1 3
          have x_4 := blk_cell HT4.out.1 4
          have y_4 := blk_cell HT4.out.2.1 4
          have x_5 := blk_cell HT4.out.1 5
          have y_5 := blk_cell HT4.out.2.1 5
          have x_6 := blk_cell HT4.out.1 6
          have y_6 := blk_cell HT4.out.2.1 6
          have x_7 := blk_cell HT4.out.1 7
          have y_7 := blk_cell HT4.out.2.1 7
          have x_8 := blk_cell HT4.out.1 8
          have y_8 := blk_cell HT4.out.2.1 8
          have x_9 := blk_cell HT4.out.1 9
          have y_9 := blk_cell HT4.out.2.1 9
          have x_10 := blk_cell HT4.out.1 10
          have y_10 := blk_cell HT4.out.2.1 10
          have x_11 := blk_cell HT4.out.1 11
          have y_11 := blk_cell HT4.out.2.1 11
          simp only [List.getElem?_toArray, List.getElem?_cons_succ, List.getElem?_cons_zero] at x_0 y_0 x_1 y_1 x_2 y_2 x_3 y_3 x_4 y_4 x_5 y_5 x_6 y_6 x_7 y_7 x_8 y_8 x_9 y_9 x_10 y_10 x_11 y_11
          go_wp2_with (first
            | (have hh := HT5; clear hh; go_at_call 19; refine (HLP.out _ HT5.out.2.2 _ v2 s2 (HN2.out.below HB5.out)).mono ?_; rintro e w5 ⟨rfl, hb⟩; have HT6 := Lib.hid (HT5.out.below hb); clear hb)
            | (go_at_call 19; refine (HLO.out _ HT4.out.2.2 _ v1 s1 HN1.out).mono ?_; rintro e w4 ⟨rfl, hb⟩; have HT5 := Lib.hid (HT4.out.below hb); have HB5 := Lib.hid hb; clear hb x_0 y_0 x_1 y_1 x_2 y_2 x_3 y_3 x_4 y_4 x_5 y_5 x_6 y_6 x_7 y_7 x_8 y_8 x_9 y_9 x_10 y_10 x_11 y_11; have x_0 := blk_cell HT5.out.1 0; have y_0 := blk_cell HT5.out.2.1 0; have x_1 := blk_cell HT5.out.1 1; have y_1 := blk_cell HT5.out.2.1 1; have x_2 := blk_cell HT5.out.1 2; have y_2 := blk_cell HT5.out.2.1 2; have x_3 := blk_cell HT5.out.1 3; have y_3 := blk_cell HT5.out.2.1 3; have x_4 := blk_cell HT5.out.1 4; have y_4 := blk_cell HT5.out.2.1 4; have x_5 := blk_cell HT5.out.1 5; have y_5 := blk_cell HT5.out.2.1 5; have x_6 := blk_cell HT5.out.1 6; have y_6 := blk_cell HT5.out.2.1 6; have x_7 := blk_cell HT5.out.1 7; have y_7 := blk_cell HT5.out.2.1 7; have x_8 := blk_cell HT5.out.1 8; have y_8 := blk_cell HT5.out.2.1 8; have x_9 := blk_cell HT5.out.1 9; have y_9 := blk_cell HT5.out.2.1 9; have x_10 := blk_cell HT5.out.1 10; have y_10 := blk_cell HT5.out.2.1 10; have x_11 := blk_cell HT5.out.1 11; have y_11 := blk_cell HT5.out.2.1 11; simp only [List.getElem?_toArray, List.getElem?_cons_succ, List.getElem?_cons_zero] at x_0 y_0 x_1 y_1 x_2 y_2 x_3 y_3 x_4 y_4 x_5 y_5 x_6 y_6 x_7 y_7 x_8 y_8 x_9 y_9 x_10 y_10 x_11 y_11))
          go_ret
          exact ⟨rfl, HBW.out.trans ((HQ1.out.2.2.trans (HT6.out.2.2.mono HQ1.out.2.2.size)).mono HBW.out.size)⟩
      · have HF := Lib.hid (show ls.length = XS.length by rw [HR.out.2, sharedR_nil _ _ _ (Or.inl (List.drop_eq_nil_of_le (by omega)))]; simp)
        have HT3 := Lib.hid HR.out.1
        clear HR
        go_upto_region 13 with (fail)
        clear x10 y10
        have x_0 := blk_cell HT3.out.1 0
        have y_0 := blk_cell HT3.out.2.1 0
        have x_1 := blk_cell HT3.out.1 1
        have y_1 := blk_cell HT3.out.2.1 1
        have x_2 := blk_cell HT3.out.1 2
        have y_2 := blk_cell HT3.out.2.1 2
        have x_3 := blk_cell HT3.out.1 3
        have y_3 := blk_cell HT3.out.2.1 3
        have x_4 := blk_cell HT3.out.1 4
        have y_4 := blk_cell HT3.out.2.1 4
        have x_5 := blk_cell HT3.out.1 5
        have y_5 := blk_cell HT3.out.2.1 5
        have x_6 := blk_cell HT3.out.1 6
        have y_6 := blk_cell HT3.out.2.1 6
        have x_7 := blk_cell HT3.out.1 7
        have y_7 := blk_cell HT3.out.2.1 7
        have x_8 := blk_cell HT3.out.1 8
        have y_8 := blk_cell HT3.out.2.1 8
        have x_9 := blk_cell HT3.out.1 9
        have y_9 := blk_cell HT3.out.2.1 9
        have x_10 := blk_cell HT3.out.1 10
        have y_10 := blk_cell HT3.out.2.1 10
        have x_11 := blk_cell HT3.out.1 11
        have y_11 := blk_cell HT3.out.2.1 11
        simp only [List.getElem?_toArray, List.getElem?_cons_succ, List.getElem?_cons_zero] at x_0 y_0 x_1 y_1 x_2 y_2 x_3 y_3 x_4 y_4 x_5 y_5 x_6 y_6 x_7 y_7 x_8 y_8 x_9 y_9 x_10 y_10 x_11 y_11
        go_upto_region 14 with (first | (go_at_call 18; refine (HNA.out _ HT3.out.2.2).mono ?_; rintro e w3 ⟨v1, v2, s1, s2, rfl, hN1, hN2, hb⟩; have HT4 := Lib.hid (HT3.out.below hb); have HN1 := Lib.hid hN1; have HN2 := Lib.hid hN2; clear hN1 hN2 hb))
        clear x_0 y_0 x_1 y_1 x_2 y_2 x_3 y_3 x_4 y_4 x_5 y_5 x_6 y_6 x_7 y_7 x_8 y_8 x_9 y_9 x_10 y_10 x_11 y_11
        have hl1 : (XS.length : Int) = (ls.length : Int) := by have := HF.out; omega
        have x_0 := blk_cell HT4.out.1 0
        have y_0 := blk_cell HT4.out.2.1 0
        have x_1 := blk_cell HT4.out.1 1
        have y_1 := blk_cell HT4.out.2.1 1
        have x_2 := blk_cell HT4.out.1 2
        have y_2 := blk_cell HT4.out.2.1 2
        have x_3 := blk_cell HT4.out.1 3
        have y_3 := blk_cell HT4.out.2.1 3
        have x_4 := blk_cell HT4.out.1 4
        have y_4 := blk_cell HT4.out.2.1 4
        have x_5 := blk_cell HT4.out.1 5
        have y_5 := blk_cell HT4.out.2.1 5
        have x_6 := blk_cell HT4.out.1 6
        have y_6 := blk_cell HT4.out.2.1 6
        have x_7 := blk_cell HT4.out.1 7
        have y_7 := blk_cell HT4.out.2.1 7
        have x_8 := blk_cell HT4.out.1 8
        have y_8 := blk_cell HT4.out.2.1 8
        have x_9 := blk_cell HT4.out.1 9
        have y_9 := blk_cell HT4.out.2.1 9
        have x_10 := blk_cell HT4.out.1 10
        have y_10 := blk_cell HT4.out.2.1 10
        have x_11 := blk_cell HT4.out.1 11
        have y_11 := blk_cell HT4.out.2.1 11
        simp only [List.getElem?_toArray, List.getElem?_cons_succ, List.getElem?_cons_zero] at x_0 y_0 x_1 y_1 x_2 y_2 x_3 y_3 x_4 y_4 x_5 y_5 x_6 y_6 x_7 y_7 x_8 y_8 x_9 y_9 x_10 y_10 x_11 y_11
        go_wp2_with (first
          | (have hh := HT5; clear hh; go_at_call 19; refine (HLP.out _ HT5.out.2.2 _ v2 s2 (HN2.out.below HB5.out)).mono ?_; rintro e w5 ⟨rfl, hb⟩; have HT6 := Lib.hid (HT5.out.below hb); clear hb)
          | (go_at_call 19; refine (HLO.out _ HT4.out.2.2 _ v1 s1 HN1.out).mono ?_; rintro e w4 ⟨rfl, hb⟩; have HT5 := Lib.hid (HT4.out.below hb); have HB5 := Lib.hid hb; clear hb x_0 y_0 x_1 y_1 x_2 y_2 x_3 y_3 x_4 y_4 x_5 y_5 x_6 y_6 x_7 y_7 x_8 y_8 x_9 y_9 x_10 y_10 x_11 y_11; have x_0 := blk_cell HT5.out.1 0; have y_0 := blk_cell HT5.out.2.1 0; have x_1 := blk_cell HT5.out.1 1; have y_1 := blk_cell HT5.out.2.1 1; have x_2 := blk_cell HT5.out.1 2; have y_2 := blk_cell HT5.out.2.1 2; have x_3 := blk_cell HT5.out.1 3; have y_3 := blk_cell HT5.out.2.1 3; have x_4 := blk_cell HT5.out.1 4; have y_4 := blk_cell HT5.out.2.1 4; have x_5 := blk_cell HT5.out.1 5; have y_5 := blk_cell HT5.out.2.1 5; have x_6 := blk_cell HT5.out.1 6; have y_6 := blk_cell HT5.out.2.1 6; have x_7 := blk_cell HT5.out.1 7; have y_7 := blk_cell HT5.out.2.1 7; have x_8 := blk_cell HT5.out.1 8; have y_8 := blk_cell HT5.out.2.1 8; have x_9 := blk_cell HT5.out.1 9; have y_9 := blk_cell HT5.out.2.1 9; have x_10 := blk_cell HT5.out.1 10; have y_10 := blk_cell HT5.out.2.1 10; have x_11 := blk_cell HT5.out.1 11; have y_11 := blk_cell HT5.out.2.1 11; simp only [List.getElem?_toArray, List.getElem?_cons_succ, List.getElem?_cons_zero] at x_0 y_0 x_1 y_1 x_2 y_2 x_3 y_3 x_4 y_4 x_5 y_5 x_6 y_6 x_7 y_7 x_8 y_8 x_9 y_9 x_10 y_10 x_11 y_11))
        go_ret
        exact ⟨rfl, HBW.out.trans ((HQ1.out.2.2.trans (HT6.out.2.2.mono HQ1.out.2.2.size)).mono HBW.out.size)⟩
end Go.Proofs.YthphhogljniofaaDoor

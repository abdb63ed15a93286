/- Laws on a region that draws: allocations that no call waits for may come anywhere between the calls. -/
import Derived.Test.YthphhogljniofaaDoorXKdM17D
import Derived.Test.YthphhogljniofaaDoorXKdM17Q
import Derived.Test.YthphhogljniofaaDoorXKdM17P
namespace Go.Proofs.YthphhogljniofaaDoor
set_option linter.unusedVariables false
set_option linter.unusedSimpArgs false
open Go.RowKit Go.Proofs.YthphhogljniofaaDoorW.PrintWords Go.Proofs.YthphhogljniofaaDoorW.PrintLast Go.Proofs.YthphhogljniofaaDoorW.PrintMore

/-- What is done when c of the calls ms are, and of the allocations fs those that b tells. -/
def maskF (n : Nat) (pre ms fs : List Nat) (c : Nat) (b : List Bool) : Array Bool := ((List.range n).map fun i => pre.contains i || (ms.take c).contains i || (fs.zip b).any fun p => p.1 == i && p.2).toArray
def allB : Nat → List (List Bool)
  | 0 => [[]]
  | m + 1 => (allB m).map (false :: ·) ++ (allB m).map (true :: ·)
theorem mem_allB : ∀ b : List Bool, b ∈ allB b.length
  | [] => by simp [allB]
  | false :: r => by simp only [List.length_cons, allB, List.mem_append, List.mem_map]; exact .inl ⟨r, mem_allB r, rfl⟩
  | true :: r => by simp only [List.length_cons, allB, List.mem_append, List.mem_map]; exact .inr ⟨r, mem_allB r, rfl⟩
def floatB (md : Region.Mode) (ops : Array Oper) (n : Nat) (pre ms fs : List Nat) (c : Nat) (b : List Bool) : Bool :=
  let l := maskF n pre ms fs c b
  let rs := Region.ready md ops l
  (!(rs == []) || (c == ms.length && b.all id)) && rs.all fun i => (decide (c < ms.length) && ms[c]? == some i && l.setIfInBounds i true == maskF n pre ms fs (c + 1) b) || (c == ms.length && b.all id) || (List.range fs.length).any fun j => b[j]? == some false && fs[j]? == some i && l.setIfInBounds i true == maskF n pre ms fs c (b.set j true)
def floatsB (md : Region.Mode) (ops : Array Oper) (n : Nat) (pre ms fs : List Nat) : Bool := (List.range (ms.length + 1)).all fun c => (allB fs.length).all fun b => floatB md ops n pre ms fs c b
theorem all_set {b : List Bool} : b.all id = true ∨ ∃ j : Nat, b[j]? = some false := by
  by_cases h : b.all id = true
  · exact .inl h
  · right
    simp only [List.all_eq_true, id_eq, Classical.not_forall] at h
    obtain ⟨x, hx, hn⟩ := h
    obtain ⟨j, hj⟩ := List.mem_iff_getElem?.1 hx
    refine ⟨j, ?_⟩
    rw [hj]
    cases x
    · rfl
    · exact absurd rfl hn
theorem count_set : ∀ (b : List Bool) (j : Nat), b[j]? = some false → (b.set j true).countP (fun x => !x) + 1 = b.countP (fun x => !x)
  | [], j, h => by simp at h
  | x :: r, 0, h => by
    have hx : x = false := by simpa using h
    subst hx
    simp
  | x :: r, j + 1, h => by
    have h2 := count_set r j (by simpa using h)
    rw [List.set_cons_succ]
    rw [List.countP_cons, List.countP_cons]
    omega
theorem floats_ {P : Program} {md : Region.Mode} {ops : Array Oper} {Q : Exit → Act → World → Prop} {S : World → Prop} {ds : List Nat} {a0 : Act} (n : Nat) (pre ms fs : List Nat) (hB : floatsB md ops n pre ms fs = true) (St : Act → Nat → List Bool → Act → World → Prop) (hSt : ∀ c b a w, St a0 c b a w → S w)
    (hmain : ∀ c i b a w, ms[c]? = some i → St a0 c b a w → wpOp P ops Q i (fun a' w' => St a0 (c + 1) b a' w') a w)
    (hfl : ∀ c j i b a w, fs[j]? = some i → b.length = fs.length → b[j]? = some false → St a0 c b a w → wpOp P ops Q i (fun a' w' => St a0 c (b.set j true) a' w') a w)
    (fuel : Nat) (hend : ∀ b a w, b.length = fs.length → b.all id = true → St a0 ms.length b a w → wpAnyLast P md ops Q S ds fuel (maskF n pre ms fs ms.length b) a w) :
    ∀ (d c : Nat) (b : List Bool) (a : Act) (w : World), c ≤ ms.length → b.length = fs.length → (ms.length - c) + b.countP (fun x => !x) = d → St a0 c b a w → wpAnyLast P md ops Q S ds (d + fuel) (maskF n pre ms fs c b) a w := by
  intro d
  induction d with
  | zero =>
    intro c b a w hc hb hd h
    have hce : c = ms.length := by omega
    subst hce
    have hall : b.all id = true := by
      rcases all_set (b := b) with h1 | ⟨j, hj⟩
      · exact h1
      · have := count_set b j hj; omega
    have hz : 0 + fuel = fuel := by omega
    rw [hz]
    exact hend b a w hb hall h
  | succ d ih =>
    intro c b a w hc hb hd h
    have hk : floatB md ops n pre ms fs c b = true := by
      unfold floatsB at hB
      have h1 := List.all_eq_true.1 hB c (List.mem_range.2 (by omega))
      exact List.all_eq_true.1 h1 b (by rw [← hb]; exact mem_allB b)
    have hnot : ¬ (c = ms.length ∧ b.all id = true) := by
      rintro ⟨rfl, hall⟩
      have : b.countP (fun x => !x) = 0 := by
        rw [List.countP_eq_zero]
        intro x hx
        have := List.all_eq_true.1 hall x hx
        simpa using this
      omega
    unfold floatB at hk
    simp only [Bool.and_eq_true, Bool.or_eq_true, Bool.not_eq_true', beq_eq_false_iff_ne, ne_eq, beq_iff_eq, List.all_eq_true, decide_eq_true_eq, List.any_eq_true, List.mem_range] at hk
    obtain ⟨hne, hall⟩ := hk
    have hf : d + 1 + fuel = (d + fuel) + 1 := by omega
    rw [hf]
    refine wpAnyLast_all rfl (by
      rcases hne with hne | ⟨h1, h2⟩
      · exact hne
      · exact absurd ⟨h1, List.all_eq_true.2 h2⟩ hnot) (fun i hi => ?_)
    rcases hall i hi with (⟨⟨h1, h2⟩, h3⟩ | ⟨h1, h2⟩) | ⟨j, hj, ⟨h2, h3⟩, h4⟩
    · refine wpOp_mono (fun a' w' hs => ⟨fun _ _ => hSt _ _ _ _ hs, ?_⟩) (hmain c i b a w h2 h)
      rw [h3]
      exact ih (c + 1) b a' w' (by omega) hb (by omega) hs
    · exact absurd ⟨h1, List.all_eq_true.2 h2⟩ hnot
    · refine wpOp_mono (fun a' w' hs => ⟨fun _ _ => hSt _ _ _ _ hs, ?_⟩) (hfl c j i b a w h3 hb h2 h)
      rw [h4]
      exact ih c (b.set j true) a' w' hc (by rw [List.length_set]; exact hb) (by have := count_set b j h2; omega) hs
theorem floats0 {P : Program} {md : Region.Mode} {ops : Array Oper} {Q : Exit → Act → World → Prop} {S : World → Prop} {ds : List Nat} {a0 : Act} (n : Nat) (pre ms fs : List Nat) (hB : floatsB md ops n pre ms fs = true) (St : Act → Nat → List Bool → Act → World → Prop) (hSt : ∀ c b a w, St a0 c b a w → S w)
    (hmain : ∀ c i b a w, ms[c]? = some i → St a0 c b a w → wpOp P ops Q i (fun a' w' => St a0 (c + 1) b a' w') a w)
    (hfl : ∀ c j i b a w, fs[j]? = some i → b.length = fs.length → b[j]? = some false → St a0 c b a w → wpOp P ops Q i (fun a' w' => St a0 c (b.set j true) a' w') a w)
    (fuel : Nat) (hend : ∀ b a w, b.length = fs.length → b.all id = true → St a0 ms.length b a w → wpAnyLast P md ops Q S ds fuel (maskF n pre ms fs ms.length b) a w) (d : Nat) (b : List Bool) (hb : b.length = fs.length) (hd : ms.length + b.countP (fun x => !x) = d) {w : World} (h0 : St a0 0 b a0 w) : wpAnyLast P md ops Q S ds (d + fuel) (maskF n pre ms fs 0 b) a0 w :=
  floats_ n pre ms fs hB St hSt hmain hfl fuel hend d 0 b a0 w (Nat.zero_le _) hb (by omega) h0
theorem op_step {P : Program} {ops : Array Oper} {Q : Exit → Act → World → Prop} {i : Nat} {N : Option Tmp} {oi : Oper} {K : Act → World → Prop} {a : Act} {w : World} (hi : ops[i]? = some oi) (hN : oi.dst = N)
    (h : ∀ K' : Act → World → Prop, (∀ a w, K a w → K' a w) → if Region.wanted oi (yielded ops a.tmps) = true then Oper.wp P oi a w K' Q else K' (a.put N undef) w) : wpOp P ops Q i K a w := by
  subst hN
  exact wpOp_step hi h
end Go.Proofs.YthphhogljniofaaDoor

/- Contracts over this translation: plans that are handed to a law; two plans' models. -/
namespace Go.Proofs.YthphhogljniofaaDoorX.Kd
open Go.RowKit Go.Proofs.YthphhogljniofaaDoor Go.Proofs.YthphhogljniofaaDoorW.PrintWords
structure S27 where
  f0 : Int
  f1 : List S74
  f2 : List S52
  f3 : List S87
  f4 : List ByteArray
def k27 : Kd S27 := Kd.iso (Kd.pair (Kd.int .i64) (Kd.pair (Kd.slice 74 k74) (Kd.pair (Kd.slice 52 k52) (Kd.pair (Kd.slice 87 k87) (Kd.slice 9 Kd.string))))) (fun x : S27 => (x.f0, x.f1, x.f2, x.f3, x.f4))
theorem k27_open {w : World} {x : S27} {cs : List Value} (h : k27.K w x cs) : ∃ A1 c1 A2 c2 A3 c3 A4 c4, cs = [.int .i64 x.f0, .slice A1 x.f1.length c1, .slice A2 x.f2.length c2, .slice A3 x.f3.length c3, .slice A4 x.f4.length c4] ∧ k74.C w A1 x.f1.length x.f1 ∧ k52.C w A2 x.f2.length x.f2 ∧ k87.C w A3 x.f3.length x.f3 ∧ Kd.string.C w A4 x.f4.length x.f4 := by
  obtain ⟨_, _, rfl, rfl, ⟨_, _, rfl, ⟨A1, c1, rfl, l1, g1⟩, ⟨_, _, rfl, ⟨A2, c2, rfl, l2, g2⟩, ⟨_, _, rfl, ⟨A3, c3, rfl, l3, g3⟩, ⟨A4, c4, rfl, l4, g4⟩⟩⟩⟩⟩ := h
  exact ⟨A1, c1, A2, c2, A3, c3, A4, c4, rfl, g1, g2, g3, g4⟩
end Go.Proofs.YthphhogljniofaaDoorX.Kd
namespace Go.Proofs.YthphhogljniofaaDoor
set_option linter.unusedVariables false
set_option linter.unusedSimpArgs false
open Go.RowKit Go.Proofs.YthphhogljniofaaDoorX.Kd Go.Proofs.YthphhogljniofaaDoorW.PrintWords Go.Proofs.YthphhogljniofaaDoorW.PrintLast Go.Proofs.YthphhogljniofaaDoorW.PrintMore

def PM (z : S27) : MdD := planM z.f0 z.f1 z.f2 z.f3 z.f4
/-- What may be asked of a plan: its texts are no longer than memory. -/
def okP (z : S27) : Prop := (∀ x ∈ z.f1, x.f0.size ≤ 9223372036854775807 ∧ x.f4.size ≤ 9223372036854775807) ∧ ∀ x ∈ z.f2, x.f0.size ≤ 9223372036854775807
def MDv (z : S27) (w : World) (v : Value) : Prop := ∃ A9 c9 A10 c10, v = .agg #[.bool (flagB z.f0 2), .bool (flagB z.f0 1), .int .u8 3, .int .u8 0, .int .u64 1, .int .u64 243, .int .u64 16, .int .u64 5, .int .u64 1, .slice A9 (madeSecs z.f0 z.f1 z.f2 z.f3).length c9, .slice A10 (segsR z.f4).length c10] ∧ Kd.C k78 w A9 (madeSecs z.f0 z.f1 z.f2 z.f3).length (madeSecs z.f0 z.f1 z.f2 z.f3) ∧ Kd.C k81 w A10 (segsR z.f4).length (segsR z.f4)
def TDv (z : S27) (w : World) (v : Value) : Prop := ∃ B9 d9 B10 d10, v = .agg #[.bool (flagB z.f0 1), .bool (flagB z.f0 2), .int .u8 3, .int .u8 0, .string ⟨#[]⟩, .int .u64 1, .int .u64 243, .int .u64 16, .int .u64 5, .int .u64 1, .slice B9 (PM z).L.length d9, .slice B10 (PM z).D.length d10] ∧ Kd.R k58 58 w 0 (fun _ => True) (.slice B9 (PM z).L.length d9) (PM z).L ∧ Kd.R k65 65 w 0 (fun _ => True) (.slice B10 (PM z).D.length d10) (PM z).D
theorem MDv.below {z : S27} {w w1 : World} {v : Value} (h : MDv z w v) (hb : Below w.heap.size w w1) : MDv z w1 v := by
  obtain ⟨A9, c9, A10, c10, e, h1, h2⟩ := h
  exact ⟨A9, c9, A10, c10, e, Kd.C_below h1 hb, Kd.C_below h2 hb⟩
theorem TDv.below {z : S27} {w w1 : World} {v : Value} (h : TDv z w v) (hb : Below w.heap.size w w1) : TDv z w1 v := by
  obtain ⟨A9, c9, A10, c10, e, h1, h2⟩ := h
  exact ⟨A9, c9, A10, c10, e, Kd.R_below h1 hb, Kd.R_below h2 hb⟩
theorem made_z (z : S27) (hz : okP z) (a01 a02 a03 a04 : Option Addr) (c01 c02 c03 c04 : Nat) (w : World) (h1 : Kd.C k74 w a01 z.f1.length z.f1) (h2 : Kd.C k52 w a02 z.f2.length z.f2) (h3 : Kd.C k87 w a03 z.f3.length z.f3) (h4 : Kd.C Kd.string w a04 z.f4.length z.f4) :
    Calls Tryd.prog 9 #[.agg #[.int .i64 z.f0, .slice a01 z.f1.length c01, .slice a02 z.f2.length c02, .slice a03 z.f3.length c03, .slice a04 z.f4.length c04]] w fun e w' => ∃ v, e = .returned v ∧ MDv z w' v ∧ Below w.heap.size w w' := by
  refine (made_any z.f0 z.f1 z.f2 z.f3 z.f4 hz.1 hz.2 a01 a02 a03 a04 c01 c02 c03 c04 w h1 h2 h3 h4).mono ?_
  rintro e w' ⟨v9, v10, rfl, hR, hD, hB⟩
  obtain ⟨A9, c9, rfl, _, hC9⟩ := Kd.R_reads hR
  obtain ⟨A10, c10, rfl, _, hC10⟩ := Kd.R_reads hD
  exact ⟨_, rfl, ⟨A9, c9, A10, c10, rfl, hC9, hC10⟩, hB⟩
theorem told_z (z : S27) (v : Value) (w : World) (h : MDv z w v) : Calls Tryd.prog 8 #[v] w fun e w' => ∃ u, e = .returned u ∧ TDv z w' u ∧ Below w.heap.size w w' := by
  obtain ⟨A9, c9, A10, c10, rfl, h1, h2⟩ := h
  have hl := madeSecs_len z.f0 z.f1 z.f2 z.f3
  have hs := segsR_le z.f4
  refine (told_any (flagB z.f0 2) (flagB z.f0 1) 3 0 1 243 16 5 1 (madeSecs z.f0 z.f1 z.f2 z.f3) (segsR z.f4) (by omega) (by omega) (fun x hx => by have := madeSecs_in z.f0 z.f1 z.f2 z.f3 x hx; omega) A9 A10 c9 c10 w h1 h2).mono ?_
  rintro e w' ⟨v9, v10, rfl, hR, hD, hB⟩
  obtain ⟨B9, d9, rfl⟩ := Kd.R_slice hR
  obtain ⟨B10, d10, rfl⟩ := Kd.R_slice hD
  exact ⟨_, rfl, ⟨B9, d9, B10, d10, rfl, Kd.R_lower hR (Nat.zero_le _), Kd.R_lower hD (Nat.zero_le _)⟩, hB⟩
/-- An allocated block that nobody has written yet. -/
def FLt (w0 w : World) (t : Option Bool) (u : Value) (g : Nat) : Prop := t = some true → u = .pointer (some ⟨g, 0, none⟩) ∧ w.heap[g]? = some (.cells #[.bool false, .bool false, .int .u8 0, .int .u8 0, .string ⟨#[]⟩, .int .u64 0, .int .u64 0, .int .u64 0, .int .u64 0, .int .u64 0, .slice none 0 0, .slice none 0 0] 39 (0, 0)) ∧ w0.heap.size ≤ g
theorem FLt.below {w0 w w1 : World} {t : Option Bool} {u : Value} {g : Nat} (h : FLt w0 w t u g) (hb : Below w.heap.size w w1) : FLt w0 w1 t u g := fun ht => ⟨(h ht).1, blk_below (h ht).2.1 hb, (h ht).2.2⟩
theorem FLt.lt {w0 w : World} {t : Option Bool} {u : Value} {g : Nat} (h : FLt w0 w t u g) (ht : t = some true) : g < w.heap.size := blk_lt (h ht).2.1
theorem diff_t (z z' : S27) (B0 E0 B1 E1 : Option Addr) (d0 e0 d1 e1 : Nat) (w : World) (h9 : Kd.C k58 w B0 (PM z).L.length (PM z).L) (h10 : Kd.C k65 w E0 (PM z).D.length (PM z).D) (j9 : Kd.C k58 w B1 (PM z').L.length (PM z').L) (j10 : Kd.C k65 w E1 (PM z').D.length (PM z').D) :
    Calls Tryd.prog 12 #[.agg #[.bool (flagB z.f0 1), .bool (flagB z.f0 2), .int .u8 3, .int .u8 0, .string ⟨#[]⟩, .int .u64 1, .int .u64 243, .int .u64 16, .int .u64 5, .int .u64 1, .slice B0 (PM z).L.length d0, .slice E0 (PM z).D.length e0], .agg #[.bool (flagB z'.f0 1), .bool (flagB z'.f0 2), .int .u8 3, .int .u8 0, .string ⟨#[]⟩, .int .u64 1, .int .u64 243, .int .u64 16, .int .u64 5, .int .u64 1, .slice B1 (PM z').L.length d1, .slice E1 (PM z').D.length e1]] w fun e w' => e = .returned (.string (diffR (PM z) (PM z'))) ∧ Below w.heap.size w w' :=
  diff_any (PM z) (PM z') (Nat.le_trans (planM_L _ _ _ _ _) (by decide)) (Nat.le_trans (planM_D _ _ _ _ _) (by decide)) B0 E0 B1 E1 d0 e0 d1 e1 w h9 h10 j9 j10
theorem models_t (z z' : S27) (B0 E0 B1 E1 : Option Addr) (d0 e0 d1 e1 : Nat) (w : World) (h9 : Kd.C k58 w B0 (PM z).L.length (PM z).L) (h10 : Kd.C k65 w E0 (PM z).D.length (PM z).D) (j9 : Kd.C k58 w B1 (PM z').L.length (PM z').L) (j10 : Kd.C k65 w E1 (PM z').D.length (PM z').D) :
    Calls Tryd.prog 10 #[.agg #[.bool (flagB z.f0 1), .bool (flagB z.f0 2), .int .u8 3, .int .u8 0, .string ⟨#[]⟩, .int .u64 1, .int .u64 243, .int .u64 16, .int .u64 5, .int .u64 1, .slice B0 (PM z).L.length d0, .slice E0 (PM z).D.length e0], .agg #[.bool (flagB z'.f0 1), .bool (flagB z'.f0 2), .int .u8 3, .int .u8 0, .string ⟨#[]⟩, .int .u64 1, .int .u64 243, .int .u64 16, .int .u64 5, .int .u64 1, .slice B1 (PM z').L.length d1, .slice E1 (PM z').D.length e1]] w fun e w' => e = .returned (.bool (eqC (diffR (PM z) (PM z')) ⟨#[]⟩)) ∧ Below w.heap.size w w' :=
  models_any (PM z) (PM z') (Nat.le_trans (planM_L _ _ _ _ _) (by decide)) (Nat.le_trans (planM_D _ _ _ _ _) (by decide)) B0 E0 B1 E1 d0 e0 d1 e1 w h9 h10 j9 j10
theorem diffS_t (z : S27) (n0 : ByteArray) (hn : n0 = ⟨#[]⟩) (B0 E0 : Option Addr) (d0 e0 : Nat) (w : World) (h9 : Kd.C k58 w B0 (PM z).L.length (PM z).L) (h10 : Kd.C k65 w E0 (PM z).D.length (PM z).D) :
    Calls Tryd.prog 12 #[.agg #[.bool (flagB z.f0 1), .bool (flagB z.f0 2), .int .u8 3, .int .u8 0, .string ⟨#[]⟩, .int .u64 1, .int .u64 243, .int .u64 16, .int .u64 5, .int .u64 1, .slice B0 (PM z).L.length d0, .slice E0 (PM z).D.length e0], .agg #[.bool (flagB z.f0 1), .bool (flagB z.f0 2), .int .u8 3, .int .u8 0, .string ⟨#[]⟩, .int .u64 1, .int .u64 243, .int .u64 16, .int .u64 5, .int .u64 1, .slice B0 (PM z).L.length d0, .slice E0 (PM z).D.length e0]] w fun e w' => e = .returned (.string n0) ∧ Below w.heap.size w w' := by
  refine (diff_t z z B0 E0 B0 E0 d0 e0 d0 e0 w h9 h10 h9 h10).mono ?_
  rintro e w' ⟨rfl, hb⟩
  rw [diffR_nil.2 (eqM_refl _), hn]
  exact ⟨rfl, hb⟩
end Go.Proofs.YthphhogljniofaaDoor

/- Plain laws: where two models part when one thing is changed. -/
namespace Go.Proofs.YthphhogljniofaaDoor
set_option linter.unusedVariables false
set_option linter.unusedSimpArgs false
open Go.RowKit Go.Proofs.YthphhogljniofaaDoorX.Kd Go.Proofs.YthphhogljniofaaDoorW.PrintWords Go.Proofs.YthphhogljniofaaDoorW.PrintLast Go.Proofs.YthphhogljniofaaDoorW.PrintMore

theorem diff_ident {a b : MdD} (h : ((((a.big == b.big) && (a.wide == b.wide)) && (a.abi == b.abi)) && (a.ver == b.ver)) = false) : diffR a b = ⟨#[105, 100, 101, 110, 116]⟩ := by
  have hh : headR a b = ⟨#[105, 100, 101, 110, 116]⟩ := by
    unfold headR firstR
    exact if_neg (by show ¬ (_ = true); rw [h]; decide)
  unfold diffR
  rw [hh, if_pos (by decide)]
theorem diff_header {a b : MdD} (h0 : ((((a.big == b.big) && (a.wide == b.wide)) && (a.abi == b.abi)) && (a.ver == b.ver)) = true) (h : (((((a.ty == b.ty) && (a.mc == b.mc)) && (a.en == b.en)) && (a.fg == b.fg)) && (a.nm == b.nm)) = false) : diffR a b = ⟨#[104, 101, 97, 100, 101, 114]⟩ := by
  have hh : headR a b = ⟨#[104, 101, 97, 100, 101, 114]⟩ := by
    unfold headR firstR
    refine (if_pos (by exact h0)).trans ?_
    unfold firstR
    exact if_neg (by show ¬ (_ = true); rw [h]; decide)
  unfold diffR
  rw [hh, if_pos (by decide)]
theorem diff_sections {a b : MdD} (h0 : ((((a.big == b.big) && (a.wide == b.wide)) && (a.abi == b.abi)) && (a.ver == b.ver)) = true) (h1 : (((((a.ty == b.ty) && (a.mc == b.mc)) && (a.en == b.en)) && (a.fg == b.fg)) && (a.nm == b.nm)) = true) (h : a.L.length ≠ b.L.length) : diffR a b = ⟨#[115, 101, 99, 116, 105, 111, 110, 115]⟩ := by
  have hh : headR a b = ⟨#[115, 101, 99, 116, 105, 111, 110, 115]⟩ := by
    unfold headR firstR
    refine (if_pos (by exact h0)).trans ?_
    unfold firstR
    refine (if_pos (by exact h1)).trans ?_
    unfold firstR
    exact if_neg (by show ¬ (((a.L.length : Int) == (b.L.length : Int)) = true); rw [beq_iff_eq]; omega)
  unfold diffR
  rw [hh, if_pos (by decide)]
def inR (k : Nat) : ByteArray := ((⟨#[115, 101, 99, 116, 105, 111, 110, 32]⟩ : ByteArray) ++ itoaR k) ++ (⟨#[32]⟩ : ByteArray)
theorem secsR_set {t : ByteArray} (ht : t ≠ ⟨#[]⟩) : ∀ (L : List S58) (i k : Nat) (y : S58) (hk : k < L.length), whereR L[k] y = t → secsR i L (L.set k y) = inR (i + k) ++ t
  | x :: xs, i, 0, y, hk, h => by
    have h : whereR x y = t := h
    show secsR i (x :: xs) (y :: xs) = _
    unfold secsR
    rw [if_neg (by rw [h]; exact ht), h]; rfl
  | x :: xs, i, k + 1, y, hk, h => by
    show secsR i (x :: xs) (x :: xs.set k y) = _
    unfold secsR
    rw [if_pos (whereR_nil.2 rfl), secsR_set ht xs (i + 1) k y (by simpa using hk) h, Nat.add_assoc, Nat.add_comm 1 k]
theorem secsR_self : ∀ (L : List S58) (i : Nat), secsR i L L = ⟨#[]⟩
  | [], i => rfl
  | x :: xs, i => by unfold secsR; rw [if_pos (whereR_nil.2 rfl)]; exact secsR_self xs (i + 1)
theorem modify_set {α : Type} (f : α → α) : ∀ (l : List α) (k : Nat) (h : k < l.length), l.modify k f = l.set k (f l[k])
  | [], _, h => absurd h (Nat.not_lt_zero _)
  | x :: l, 0, h => rfl
  | x :: l, k + 1, h => by
    have hk : k < l.length := by simpa using h
    have h2 := modify_set f l k hk
    show x :: l.modify k f = x :: l.set k (f l[k])
    rw [h2]
theorem app_ne {a b : ByteArray} (h : b ≠ ⟨#[]⟩) : a ++ b ≠ ⟨#[]⟩ := by
  intro h2
  have h3 : (a ++ b).size = 0 := by rw [h2]; rfl
  rw [ByteArray.size_append] at h3
  apply h
  have h4 : b.data.size = 0 := by have : b.size = 0 := by omega
                                  exact this
  cases b with | mk d => simp only at h4; rw [Array.size_eq_zero_iff.1 h4]
theorem diff_sec {a b : MdD} (h1 : a.big = b.big ∧ a.wide = b.wide ∧ a.abi = b.abi ∧ a.ver = b.ver) (h2 : a.ty = b.ty ∧ a.mc = b.mc ∧ a.en = b.en ∧ a.fg = b.fg ∧ a.nm = b.nm) {k : Nat} (hk : k < a.L.length) (y : S58) (hL : b.L = a.L.set k y) {t : ByteArray} (ht : t ≠ ⟨#[]⟩) (hw : whereR a.L[k] y = t) : diffR a b = inR k ++ t := by
  unfold diffR
  rw [headR_of h1 h2 (by rw [hL, List.length_set]), if_neg (fun h => h rfl), hL, secsR_set ht a.L 0 k y hk hw, Nat.zero_add, if_pos (app_ne ht)]
theorem diff_segments {a b : MdD} (h1 : a.big = b.big ∧ a.wide = b.wide ∧ a.abi = b.abi ∧ a.ver = b.ver) (h2 : a.ty = b.ty ∧ a.mc = b.mc ∧ a.en = b.en ∧ a.fg = b.fg ∧ a.nm = b.nm) (hL : b.L = a.L) (hD : a.D.length ≠ b.D.length) : diffR a b = ⟨#[115, 101, 103, 109, 101, 110, 116, 115]⟩ := by
  unfold diffR
  rw [headR_of h1 h2 (by rw [hL]), if_neg (fun h => h rfl), hL, secsR_self, if_neg (fun h => h rfl), if_pos hD]
theorem diff_seg0 {a b : MdD} (h1 : a.big = b.big ∧ a.wide = b.wide ∧ a.abi = b.abi ∧ a.ver = b.ver) (h2 : a.ty = b.ty ∧ a.mc = b.mc ∧ a.en = b.en ∧ a.fg = b.fg ∧ a.nm = b.nm) (hL : b.L = a.L) {x y : S65} {r : List S65} (ha : a.D = x :: r) (hb : b.D = y :: r) (hne : x ≠ y) : diffR a b = ⟨#[115, 101, 103, 109, 101, 110, 116, 32, 48]⟩ := by
  unfold diffR
  rw [headR_of h1 h2 (by rw [hL]), if_neg (fun h => h rfl), hL, secsR_self, if_neg (fun h => h rfl), if_neg (by rw [ha, hb]; simp), ha, hb]
  unfold segsDR
  rw [if_neg (by rw [eqC_false hne]; decide)]
  decide
/-! ### where two sections part -/
theorem heads_false {x y : S58} (h : x.f5 ≠ y.f5 ∨ x.f8 ≠ y.f8) : headsR x y = false := by
  unfold headsR
  refine eqC_false (fun e => ?_)
  simp only [Prod.mk.injEq] at e
  rcases h with h | h
  · exact h e.2.2.2.2.1
  · exact h e.2.2.2.2.2.2.2
theorem heads_true {x y : S58} (h : (x.f1, x.f2, x.f3, x.f4, x.f5, x.f6, x.f7, x.f8) = (y.f1, y.f2, y.f3, y.f4, y.f5, y.f6, y.f7, y.f8)) : headsR x y = true := eqC_true h
theorem where_name {x y : S58}  (h : eqC x.f0 y.f0 = false) : whereR x y = ⟨#[110, 97, 109, 101]⟩ := by
  unfold whereR firstR
  exact if_neg (by show ¬ (eqC x.f0 y.f0 = true); rw [h]; decide)
theorem where_header {x y : S58} (h0 : eqC x.f0 y.f0 = true) (h : headsR x y = false) : whereR x y = ⟨#[104, 101, 97, 100, 101, 114]⟩ := by
  unfold whereR firstR
  refine (if_pos (by exact h0)).trans ?_
  unfold firstR
  exact if_neg (by show ¬ (headsR x y = true); rw [h]; decide)
theorem where_data {x y : S58} (h0 : eqC x.f0 y.f0 = true) (h1 : headsR x y = true) (h : eqC x.f9 y.f9 = false) : whereR x y = ⟨#[100, 97, 116, 97]⟩ := by
  unfold whereR firstR
  refine (if_pos (by exact h0)).trans ?_
  unfold firstR
  refine (if_pos (by exact h1)).trans ?_
  unfold firstR
  exact if_neg (by show ¬ (eqC x.f9 y.f9 = true); rw [h]; decide)
theorem where_symbols {x y : S58} (h0 : eqC x.f0 y.f0 = true) (h1 : headsR x y = true) (h2 : eqC x.f9 y.f9 = true) (h : eqC x.f10 y.f10 = false) : whereR x y = ⟨#[115, 121, 109, 98, 111, 108, 115]⟩ := by
  unfold whereR firstR
  refine (if_pos (by exact h0)).trans ?_
  unfold firstR
  refine (if_pos (by exact h1)).trans ?_
  unfold firstR
  refine (if_pos (by exact h2)).trans ?_
  unfold firstR
  exact if_neg (by show ¬ (eqC x.f10 y.f10 = true); rw [h]; decide)
theorem where_relocations {x y : S58} (h0 : eqC x.f0 y.f0 = true) (h1 : headsR x y = true) (h2 : eqC x.f9 y.f9 = true) (h3 : eqC x.f10 y.f10 = true) (h : eqC x.f11 y.f11 = false) : whereR x y = ⟨#[114, 101, 108, 111, 99, 97, 116, 105, 111, 110, 115]⟩ := by
  unfold whereR firstR
  refine (if_pos (by exact h0)).trans ?_
  unfold firstR
  refine (if_pos (by exact h1)).trans ?_
  unfold firstR
  refine (if_pos (by exact h2)).trans ?_
  unfold firstR
  refine (if_pos (by exact h3)).trans ?_
  unfold firstR
  exact if_neg (by show ¬ (eqC x.f11 y.f11 = true); rw [h]; decide)
theorem where_members {x y : S58} (h0 : eqC x.f0 y.f0 = true) (h1 : headsR x y = true) (h2 : eqC x.f9 y.f9 = true) (h3 : eqC x.f10 y.f10 = true) (h4 : eqC x.f11 y.f11 = true) (h : eqC x.f12 y.f12 = false) : whereR x y = ⟨#[109, 101, 109, 98, 101, 114, 115]⟩ := by
  unfold whereR firstR
  refine (if_pos (by exact h0)).trans ?_
  unfold firstR
  refine (if_pos (by exact h1)).trans ?_
  unfold firstR
  refine (if_pos (by exact h2)).trans ?_
  unfold firstR
  refine (if_pos (by exact h3)).trans ?_
  unfold firstR
  refine (if_pos (by exact h4)).trans ?_
  unfold firstR
  exact if_neg (by show ¬ (eqC x.f12 y.f12 = true); rw [h]; decide)
/-! ### the changes -/
/-- A section with one thing of it another one. -/
def chgS (m : Nat) (x : S58) : S58 :=
  match m with
  | 5 => { x with f0 := x.f0 ++ (⟨#[120]⟩ : ByteArray) }
  | 6 => { x with f5 := IntKind.u64.wrap (x.f5 + 1) }
  | 7 => { x with f8 := IntKind.u64.wrap (x.f8 + 1) }
  | 8 => { x with f9 := x.f9 ++ (⟨#[120]⟩ : ByteArray) }
  | 9 => { x with f10 := x.f10 ++ [z61] }
  | 10 => { x with f11 := x.f11 ++ [z63] }
  | 11 => { x with f12 := x.f12 ++ [0] }
  | _ => x
def chgT (m : Nat) : ByteArray :=
  match m with
  | 5 => ⟨#[110, 97, 109, 101]⟩
  | 6 => ⟨#[104, 101, 97, 100, 101, 114]⟩
  | 7 => ⟨#[104, 101, 97, 100, 101, 114]⟩
  | 8 => ⟨#[100, 97, 116, 97]⟩
  | 9 => ⟨#[115, 121, 109, 98, 111, 108, 115]⟩
  | 10 => ⟨#[114, 101, 108, 111, 99, 97, 116, 105, 111, 110, 115]⟩
  | 11 => ⟨#[109, 101, 109, 98, 101, 114, 115]⟩
  | _ => ⟨#[]⟩
theorem app_x (s : ByteArray) : s ≠ s ++ (⟨#[120]⟩ : ByteArray) := fun h => by
  have h2 : s.size = (s ++ (⟨#[120]⟩ : ByteArray)).size := congrArg ByteArray.size h
  rw [ByteArray.size_append] at h2
  have h3 : (⟨#[120]⟩ : ByteArray).size = 1 := rfl
  omega
theorem app_l {α : Type} (s : List α) (x : α) : s ≠ s ++ [x] := fun h => by
  have h2 := congrArg List.length h
  simp at h2
theorem wrap_ne (x : Int) : x ≠ IntKind.u64.wrap (x + 1) := by
  rw [IntKind.wrap_u64]; omega
theorem where_chg (m : Nat) (h5 : 5 ≤ m) (h11 : m ≤ 11) (x : S58) : whereR x (chgS m x) = chgT m := by
  have hm : m = 5 ∨ m = 6 ∨ m = 7 ∨ m = 8 ∨ m = 9 ∨ m = 10 ∨ m = 11 := by omega
  rcases hm with rfl | rfl | rfl | rfl | rfl | rfl | rfl
  · exact where_name (eqC_false (app_x _))
  · exact where_header (eqC_true rfl) (heads_false (.inl (wrap_ne _)))
  · exact where_header (eqC_true rfl) (heads_false (.inr (wrap_ne _)))
  · exact where_data (eqC_true rfl) (heads_true rfl) (eqC_false (app_x _))
  · exact where_symbols (eqC_true rfl) (heads_true rfl) (eqC_true rfl) (eqC_false (app_l _ _))
  · exact where_relocations (eqC_true rfl) (heads_true rfl) (eqC_true rfl) (eqC_true rfl) (eqC_false (app_l _ _))
  · exact where_members (eqC_true rfl) (heads_true rfl) (eqC_true rfl) (eqC_true rfl) (eqC_true rfl) (eqC_false (app_l _ _))
theorem chgT_ne (m : Nat) (h5 : 5 ≤ m) (h11 : m ≤ 11) : chgT m ≠ ⟨#[]⟩ := by
  have hm : m = 5 ∨ m = 6 ∨ m = 7 ∨ m = 8 ∨ m = 9 ∨ m = 10 ∨ m = 11 := by omega
  rcases hm with rfl | rfl | rfl | rfl | rfl | rfl | rfl <;> decide
/-- A model with one thing of it another one. -/
def chgM (m k : Nat) (a : MdD) : MdD :=
  match m with
  | 0 => { a with big := !a.big }
  | 1 => { a with ver := 1 }
  | 2 => { a with mc := 244 }
  | 3 => { a with nm := 2 }
  | 4 => { a with L := a.L ++ [z58] }
  | 12 => { a with D := a.D.drop 1 }
  | 13 => { a with D := a.D.modify 0 (fun y => { y with f6 := y.f6 ++ (⟨#[120]⟩ : ByteArray) }) }
  | 14 => { a with pad := ⟨#[120, 120, 120, 120, 120, 120, 120]⟩ }
  | m => { a with L := a.L.modify k (chgS m) }
def wantR (m k : Nat) : ByteArray :=
  match m with
  | 0 => ⟨#[105, 100, 101, 110, 116]⟩
  | 1 => ⟨#[105, 100, 101, 110, 116]⟩
  | 2 => ⟨#[104, 101, 97, 100, 101, 114]⟩
  | 3 => ⟨#[104, 101, 97, 100, 101, 114]⟩
  | 4 => ⟨#[115, 101, 99, 116, 105, 111, 110, 115]⟩
  | 12 => ⟨#[115, 101, 103, 109, 101, 110, 116, 115]⟩
  | 13 => ⟨#[115, 101, 103, 109, 101, 110, 116, 32, 48]⟩
  | 14 => ⟨#[]⟩
  | m => inR k ++ chgT m
theorem chg_diff (a : MdD) (hv : a.ver = 0) (hc : a.mc = 243) (hn : a.nm = 1) (m k : Nat) (hm : m < 15) (hk : k < a.L.length) (hD : 0 < a.D.length) : diffR a (chgM m k a) = wantR m k := by
  by_cases h5 : 5 ≤ m ∧ m ≤ 11
  · have e1 : chgM m k a = { a with L := a.L.set k (chgS m a.L[k]) } := by
      have e2 : a.L.modify k (chgS m) = a.L.set k (chgS m a.L[k]) := modify_set _ _ _ hk
      have h : m = 5 ∨ m = 6 ∨ m = 7 ∨ m = 8 ∨ m = 9 ∨ m = 10 ∨ m = 11 := by omega
      rcases h with rfl | rfl | rfl | rfl | rfl | rfl | rfl <;> (rw [← e2]; rfl)
    have e3 : wantR m k = inR k ++ chgT m := by
      have h : m = 5 ∨ m = 6 ∨ m = 7 ∨ m = 8 ∨ m = 9 ∨ m = 10 ∨ m = 11 := by omega
      rcases h with rfl | rfl | rfl | rfl | rfl | rfl | rfl <;> rfl
    rw [e1, e3]
    exact diff_sec (a := a) (b := { a with L := a.L.set k (chgS m a.L[k]) }) ⟨rfl, rfl, rfl, rfl⟩ ⟨rfl, rfl, rfl, rfl, rfl⟩ (k := k) hk (chgS m a.L[k]) rfl (chgT_ne m h5.1 h5.2) (where_chg m h5.1 h5.2 _)
  · have h : m = 0 ∨ m = 1 ∨ m = 2 ∨ m = 3 ∨ m = 4 ∨ m = 12 ∨ m = 13 ∨ m = 14 := by omega
    rcases h with rfl | rfl | rfl | rfl | rfl | rfl | rfl | rfl
    · exact diff_ident (by show ((((a.big == !a.big) && _) && _) && _) = false; cases a.big <;> rfl)
    · exact diff_ident (by show (_ && (a.ver == 1)) = false; rw [hv]; simp)
    · exact diff_header (by simp [chgM]) (by show ((((_ && (a.mc == 244)) && _) && _) && _) = false; rw [hc]; simp)
    · exact diff_header (by simp [chgM]) (by show (_ && (a.nm == 2)) = false; rw [hn]; simp)
    · exact diff_sections (by simp [chgM]) (by simp [chgM]) (by show a.L.length ≠ (a.L ++ [_]).length; simp)
    · exact diff_segments ⟨rfl, rfl, rfl, rfl⟩ ⟨rfl, rfl, rfl, rfl, rfl⟩ rfl (by show a.D.length ≠ (a.D.drop 1).length; simp; omega)
    · cases hd : a.D with
      | nil => rw [hd] at hD; cases hD
      | cons x r =>
        refine diff_seg0 ⟨rfl, rfl, rfl, rfl⟩ ⟨rfl, rfl, rfl, rfl, rfl⟩ rfl (x := x) (y := { x with f6 := x.f6 ++ (⟨#[120]⟩ : ByteArray) }) (r := r) hd ?_ ?_
        · show a.D.modify 0 _ = _
          rw [hd]; rfl
        · intro h
          exact app_x x.f6 (congrArg S65.f6 h)
    · exact diffR_nil.2 ⟨⟨⟨rfl, rfl, rfl, rfl⟩, rfl, rfl, rfl, rfl, rfl⟩, rfl, rfl⟩
theorem chg_sec (a : MdD) (m k : Nat) (hm : m < 15) (h4 : m ≠ 4) (hk : k < a.L.length) : ∃ hk2 : k < (chgM m k a).L.length, eqC a.L[k] (chgM m k a).L[k] = !(decide (5 ≤ m) && decide (m ≤ 11)) := by
  by_cases h5 : 5 ≤ m ∧ m ≤ 11
  · have e1 : (chgM m k a).L = a.L.set k (chgS m a.L[k]) := by
      have e2 : a.L.modify k (chgS m) = a.L.set k (chgS m a.L[k]) := modify_set _ _ _ hk
      have h : m = 5 ∨ m = 6 ∨ m = 7 ∨ m = 8 ∨ m = 9 ∨ m = 10 ∨ m = 11 := by omega
      rcases h with rfl | rfl | rfl | rfl | rfl | rfl | rfl <;> (rw [← e2]; rfl)
    refine ⟨by rw [e1, List.length_set]; exact hk, ?_⟩
    simp only [e1, List.getElem_set_self]
    rw [decide_eq_true h5.1, decide_eq_true h5.2]
    exact eqC_false (fun h => chgT_ne m h5.1 h5.2 (by rw [← where_chg m h5.1 h5.2 a.L[k], ← h]; exact whereR_nil.2 rfl))
  · have h : m = 0 ∨ m = 1 ∨ m = 2 ∨ m = 3 ∨ m = 12 ∨ m = 13 ∨ m = 14 := by omega
    rcases h with rfl | rfl | rfl | rfl | rfl | rfl | rfl <;> exact ⟨hk, eqC_true rfl⟩
/-! ### the texts -/
theorem want_size (m k : Nat) (h5 : 5 ≤ m) (h11 : m ≤ 11) : 8 < (inR k ++ chgT m).size := by
  have h1 : (⟨#[115, 101, 99, 116, 105, 111, 110, 32]⟩ : ByteArray).size = 8 := rfl
  have h2 : (⟨#[32]⟩ : ByteArray).size = 1 := rfl
  unfold inR
  simp only [ByteArray.size_append]
  omega
theorem chg_len (m k : Nat) (a : MdD) : (chgM m k a).L.length ≤ a.L.length + 1 ∧ (chgM m k a).D.length ≤ a.D.length := by
  unfold chgM
  split <;> simp
theorem want_head (t r : ByteArray) (h : t.size = 8) : (t ++ r).extract 0 8 = t := by
  exact ByteArray.extract_append_eq_left h.symm
theorem want_sections (m k : Nat) (hm : m < 15) (h4 : m ≠ 4) : ((wantR m k).toList == (⟨#[115, 101, 99, 116, 105, 111, 110, 115]⟩ : ByteArray).toList) = false := by
  rw [beq_eq_false_iff_ne, Ne, ba_toList_inj]
  intro h
  by_cases h5 : 5 ≤ m ∧ m ≤ 11
  · have e3 : wantR m k = inR k ++ chgT m := by
      have h : m = 5 ∨ m = 6 ∨ m = 7 ∨ m = 8 ∨ m = 9 ∨ m = 10 ∨ m = 11 := by omega
      rcases h with rfl | rfl | rfl | rfl | rfl | rfl | rfl <;> rfl
    have h2 := want_size m k h5.1 h5.2
    rw [← e3, h] at h2
    exact absurd h2 (by decide)
  · have hh : m = 0 ∨ m = 1 ∨ m = 2 ∨ m = 3 ∨ m = 12 ∨ m = 13 ∨ m = 14 := by omega
    rcases hh with rfl | rfl | rfl | rfl | rfl | rfl | rfl
    · exact absurd (show (⟨#[105, 100, 101, 110, 116]⟩ : ByteArray) = ⟨#[115, 101, 99, 116, 105, 111, 110, 115]⟩ from h) (by decide)
    · exact absurd (show (⟨#[105, 100, 101, 110, 116]⟩ : ByteArray) = ⟨#[115, 101, 99, 116, 105, 111, 110, 115]⟩ from h) (by decide)
    · exact absurd (show (⟨#[104, 101, 97, 100, 101, 114]⟩ : ByteArray) = ⟨#[115, 101, 99, 116, 105, 111, 110, 115]⟩ from h) (by decide)
    · exact absurd (show (⟨#[104, 101, 97, 100, 101, 114]⟩ : ByteArray) = ⟨#[115, 101, 99, 116, 105, 111, 110, 115]⟩ from h) (by decide)
    · exact absurd (show (⟨#[115, 101, 103, 109, 101, 110, 116, 115]⟩ : ByteArray) = ⟨#[115, 101, 99, 116, 105, 111, 110, 115]⟩ from h) (by decide)
    · exact absurd (show (⟨#[115, 101, 103, 109, 101, 110, 116, 32, 48]⟩ : ByteArray) = ⟨#[115, 101, 99, 116, 105, 111, 110, 115]⟩ from h) (by decide)
    · exact absurd (show (⟨#[]⟩ : ByteArray) = ⟨#[115, 101, 99, 116, 105, 111, 110, 115]⟩ from h) (by decide)
theorem want_tests (m k : Nat) (hm : m < 15) (h4 : m ≠ 4) : (8 < (wantR m k).size → (((wantR m k).extract 0 8).toList == (⟨#[115, 101, 99, 116, 105, 111, 110, 32]⟩ : ByteArray).toList) = (decide (5 ≤ m) && decide (m ≤ 11))) ∧ (¬ 8 < (wantR m k).size → (decide (5 ≤ m) && decide (m ≤ 11)) = false) := by
  by_cases h5 : 5 ≤ m ∧ m ≤ 11
  · have e3 : wantR m k = inR k ++ chgT m := by
      have h : m = 5 ∨ m = 6 ∨ m = 7 ∨ m = 8 ∨ m = 9 ∨ m = 10 ∨ m = 11 := by omega
      rcases h with rfl | rfl | rfl | rfl | rfl | rfl | rfl <;> rfl
    rw [e3]
    refine ⟨fun _ => ?_, fun h => absurd (want_size m k h5.1 h5.2) h⟩
    rw [decide_eq_true h5.1, decide_eq_true h5.2]
    unfold inR
    rw [ByteArray.append_assoc, ByteArray.append_assoc, want_head _ _ rfl]
    exact beq_iff_eq.2 rfl
  · have hh : m = 0 ∨ m = 1 ∨ m = 2 ∨ m = 3 ∨ m = 12 ∨ m = 13 ∨ m = 14 := by omega
    rcases hh with rfl | rfl | rfl | rfl | rfl | rfl | rfl
    · exact ⟨fun h => absurd (show 8 < (⟨#[105, 100, 101, 110, 116]⟩ : ByteArray).size from h) (by decide), fun _ => rfl⟩
    · exact ⟨fun h => absurd (show 8 < (⟨#[105, 100, 101, 110, 116]⟩ : ByteArray).size from h) (by decide), fun _ => rfl⟩
    · exact ⟨fun h => absurd (show 8 < (⟨#[104, 101, 97, 100, 101, 114]⟩ : ByteArray).size from h) (by decide), fun _ => rfl⟩
    · exact ⟨fun h => absurd (show 8 < (⟨#[104, 101, 97, 100, 101, 114]⟩ : ByteArray).size from h) (by decide), fun _ => rfl⟩
    · exact ⟨fun h => absurd (show 8 < (⟨#[115, 101, 103, 109, 101, 110, 116, 115]⟩ : ByteArray).size from h) (by decide), fun _ => rfl⟩
    · refine ⟨fun h => ?_, fun _ => rfl⟩
      rw [show (decide (5 ≤ 13) && decide (13 ≤ 11)) = false from rfl, beq_eq_false_iff_ne, Ne, ba_toList_inj]
      exact (by decide : ¬ ((⟨#[115, 101, 103, 109, 101, 110, 116, 32, 48]⟩ : ByteArray).extract 0 8 = ⟨#[115, 101, 99, 116, 105, 111, 110, 32]⟩))
    · exact ⟨fun h => absurd (show 8 < (⟨#[]⟩ : ByteArray).size from h) (by decide), fun _ => rfl⟩
end Go.Proofs.YthphhogljniofaaDoor

/- Contracts over this translation: what SameDiffs' changes do to memory. -/
namespace Go.Proofs.YthphhogljniofaaDoor
set_option linter.unusedVariables false
set_option linter.unusedSimpArgs false
open Go.RowKit Go.Proofs.YthphhogljniofaaDoorX.Kd Go.Proofs.YthphhogljniofaaDoorW.PrintWords Go.Proofs.YthphhogljniofaaDoorW.PrintLast Go.Proofs.YthphhogljniofaaDoorW.PrintMore

theorem PM_L2 (z : S27) : 2 ≤ (PM z).L.length := by
  show 2 ≤ ((madeSecs z.f0 z.f1 z.f2 z.f3).map secT).length
  rw [List.length_map]
  unfold madeSecs
  have := (sectionsR_len z.f1).1
  rw [List.length_append]; omega
theorem PM_L16 (z : S27) : (PM z).L.length ≤ 13 := planM_L _ _ _ _ _
theorem PM_D3 (z : S27) : (PM z).D.length ≤ 3 := planM_D _ _ _ _ _
theorem copyS_t (z : S27) (B9 B10 : Option Addr) (d9 d10 : Nat) (w : World) (h9 : Kd.C k58 w B9 (PM z).L.length (PM z).L) (h10 : Kd.C k65 w B10 (PM z).D.length (PM z).D) :
    Calls Tryd.prog 13 #[.agg #[.bool (flagB z.f0 1), .bool (flagB z.f0 2), .int .u8 3, .int .u8 0, .string ⟨#[]⟩, .int .u64 1, .int .u64 243, .int .u64 16, .int .u64 5, .int .u64 1, .slice B9 (PM z).L.length d9, .slice B10 (PM z).D.length d10]] w fun e w' => ∃ g cap E10 e10, e = .returned (.agg #[.bool (flagB z.f0 1), .bool (flagB z.f0 2), .int .u8 3, .int .u8 0, .string ⟨#[]⟩, .int .u64 1, .int .u64 243, .int .u64 16, .int .u64 5, .int .u64 1, .slice (some ⟨g, 0, none⟩) (PM z).L.length cap, .slice E10 (PM z).D.length e10]) ∧ Kd.S k58 58 w' w.heap.size (fun _ => True) (.slice (some ⟨g, 0, none⟩) (PM z).L.length cap) (PM z).L ∧ Kd.R k65 65 w' w.heap.size (fun _ => True) (.slice E10 (PM z).D.length e10) (PM z).D ∧ Below w.heap.size w w' := by
  have hl := PM_L16 z
  have hd : (PM z).D.length ≤ 3 := planM_D _ _ _ _ _
  refine (copy_any (flagB z.f0 1) (flagB z.f0 2) 3 0 ⟨#[]⟩ 1 243 16 5 1 (PM z).L (PM z).D (by omega) (by omega) (fun x hx => by have := planM_in z.f0 z.f1 z.f2 z.f3 z.f4 x hx; omega) B9 B10 d9 d10 w h9 h10).mono ?_
  rintro e w' ⟨v9, v10, rfl, hS, hD, hB⟩
  obtain ⟨g, cap, rfl, _⟩ := Kd.S_form hS (by have := PM_L2 z; omega)
  obtain ⟨E10, e10, rfl⟩ := Kd.R_slice hD
  exact ⟨g, cap, E10, e10, rfl, hS, hD, hB⟩
/-- Where SameDiffs stands behind the copy. -/
def BcSt (wa wb : World) (gb : Nat) (z : S27) (g cap : Nat) (E10 : Option Addr) (e10 : Nat) : Prop :=
  wb.heap[gb]? = some (.cells #[.bool (flagB z.f0 1), .bool (flagB z.f0 2), .int .u8 3, .int .u8 0, .string ⟨#[]⟩, .int .u64 1, .int .u64 243, .int .u64 16, .int .u64 5, .int .u64 1, .slice (some ⟨g, 0, none⟩) (PM z).L.length cap, .slice E10 (PM z).D.length e10] 39 (0, 0)) ∧ Below wa.heap.size wa wb ∧ Kd.S k58 58 wb wa.heap.size (fun _ => True) (.slice (some ⟨g, 0, none⟩) (PM z).L.length cap) (PM z).L ∧ Kd.R k65 65 wb wa.heap.size (fun _ => True) (.slice E10 (PM z).D.length e10) (PM z).D ∧ wa.heap.size ≤ gb
/-- Where SameDiffs stands behind a change: the second model is b. -/
def ChSt (wa wx : World) (gb : Nat) (b : MdD) : Prop :=
  ∃ B9 d9 B10 d10, wx.heap[gb]? = some (.cells #[.bool b.big, .bool b.wide, .int .u8 b.abi, .int .u8 b.ver, .string b.pad, .int .u64 b.ty, .int .u64 b.mc, .int .u64 b.en, .int .u64 b.fg, .int .u64 b.nm, .slice B9 b.L.length d9, .slice B10 b.D.length d10] 39 (0, 0)) ∧ Below wa.heap.size wa wx ∧ Kd.C k58 wx B9 b.L.length b.L ∧ Kd.C k65 wx B10 b.D.length b.D
section
variable {wa wb : World} {gb : Nat} {z : S27} {g cap : Nat} {E10 : Option Addr} {e10 : Nat}
theorem BcSt.below (h : BcSt wa wb gb z g cap E10 e10) {wc : World} (hb : Below wb.heap.size wb wc) : BcSt wa wc gb z g cap E10 e10 :=
  ⟨blk_below h.1 hb, h.2.1.trans (hb.mono h.2.1.size), Kd.S_below h.2.2.1 hb, Kd.R_below h.2.2.2.1 hb, h.2.2.2.2⟩
theorem BcSt.row (h : BcSt wa wb gb z g cap E10 e10) : wa.heap.size ≤ g ∧ ∃ cells, wb.heap[g]? = some (.cells cells 58 (0, 0)) := by
  have h1 := Kd.S_typed h.2.2.1 g (by simp [Value.ownBlock])
  exact ⟨Kd.S_base h.2.2.1 g (by simp [Value.ownBlock]), h1⟩
/-- A field of the model itself. -/
theorem c_head (h : BcSt wa wb gb z g cap E10 e10) (j : Nat) (u : Value) (b : MdD) (hc : (#[.bool (flagB z.f0 1), .bool (flagB z.f0 2), .int .u8 3, .int .u8 0, .string ⟨#[]⟩, .int .u64 1, .int .u64 243, .int .u64 16, .int .u64 5, .int .u64 1, .slice (some ⟨g, 0, none⟩) (PM z).L.length cap, .slice E10 (PM z).D.length e10] : Array Value).setIfInBounds j u = #[.bool b.big, .bool b.wide, .int .u8 b.abi, .int .u8 b.ver, .string b.pad, .int .u64 b.ty, .int .u64 b.mc, .int .u64 b.en, .int .u64 b.fg, .int .u64 b.nm, .slice (some ⟨g, 0, none⟩) b.L.length cap, .slice E10 b.D.length e10]) (hL : b.L = (PM z).L) (hD : b.D = (PM z).D) : ChSt wa (wb.setCell ⟨gb, j, none⟩ u) gb b := by
  refine ⟨some ⟨g, 0, none⟩, cap, E10, e10, blk_put h.1 j u hc, h.2.1.setCell h.2.2.2.2 u, ?_, ?_⟩
  · rw [hL]; exact (Kd.S_reads' (Kd.S_set h.2.2.1 h.1 (by decide) j u)).2.2
  · rw [hD]; exact (Kd.R_reads' (Kd.R_set h.2.2.2.1 h.1 (by decide) j u)).2.2
/-- One more section. -/
theorem c_append (h : BcSt wa wb gb z g cap E10 e10) {A : Option Addr} {c : Nat} {w1 : World} {L' : List S58} (hR : Kd.R k58 58 w1 wa.heap.size (fun _ => True) (.slice A L'.length c) L') (hB : Below wa.heap.size wa w1) (hG : wb.grownBy w1 (some g)) :
    (w1.cell? ⟨gb, 10, none⟩ = some (.slice (some ⟨g, 0, none⟩) (PM z).L.length cap) ∧ w1.frozen? ⟨gb, 10, none⟩ = false) ∧ ChSt wa (w1.setCell ⟨gb, 10, none⟩ (.slice A L'.length c)) gb { PM z with L := L' } := by
  obtain ⟨hg, cells, hgc⟩ := h.row
  have hne : gb ≠ g := fun e => by subst e; rw [h.1] at hgc; injection hgc with hgc; injection hgc with _ h2; exact absurd h2 (by decide)
  have hb1 := blk_grown h.1 hG (by intro he; injection he with he; exact hne he)
  refine ⟨⟨blk_cell hb1 10, blk_frozen hb1 10⟩, A, c, E10, e10, blk_put hb1 10 _ rfl, hB.setCell h.2.2.2.2 _, (Kd.R_reads' (Kd.R_set hR hb1 (by decide) 10 _)).2.2, ?_⟩
  have hD1 := Kd.R_over' (v := .slice (some ⟨g, 0, none⟩) (PM z).L.length cap) h.2.2.2.1 (fun k hk => ⟨cells, by
    have h2 : g = k := by simpa [Value.ownBlock] using hk
    subst h2; exact hgc⟩) (by decide) hG
  exact (Kd.R_reads' (Kd.R_set hD1 hb1 (by decide) 10 _)).2.2
/-- The first segment away. -/
theorem c_tail (h : BcSt wa wb gb z g cap E10 e10) (h1 : 1 ≤ (PM z).D.length) : ChSt wa (wb.setCell ⟨gb, 11, none⟩ (.slice (if e10 = 1 then E10 else E10.map (·.add (1 * 7))) ((PM z).D.length - 1) (e10 - 1))) gb { PM z with D := (PM z).D.drop 1 } := by
  have hr := Kd.R_reads' (Kd.R_set h.2.2.2.1 h.1 (by decide) 11 (.slice (if e10 = 1 then E10 else E10.map (·.add (1 * 7))) ((PM z).D.length - 1) (e10 - 1)))
  refine ⟨some ⟨g, 0, none⟩, cap, (if e10 = 1 then E10 else E10.map (·.add (1 * 7))), e10 - 1, blk_put h.1 11 _ ?_, h.2.1.setCell h.2.2.2.2 _, (Kd.S_reads' (Kd.S_set h.2.2.1 h.1 (by decide) 11 _)).2.2, ?_⟩
  · show _ = #[_, _, _, _, _, _, _, _, _, _, _, Value.slice _ ((PM z).D.drop 1).length _]
    rw [List.length_drop]; rfl
  · exact Kd.C_drop hr.2.2 h1 hr.2.1
/-- The first segment's bytes. -/
theorem c_seg (h : BcSt wa wb gb z g cap E10 e10) (h1 : 0 < (PM z).D.length) : ∃ gd, E10 = some ⟨gd, 0, none⟩ ∧ wb.cell? ⟨gd, 6, none⟩ = some (.string (PM z).D[0].f6) ∧ wb.frozen? ⟨gd, 6, none⟩ = false ∧ ∀ s : ByteArray, ChSt wa (wb.setCell ⟨gd, 6, none⟩ (.string s)) gb { PM z with D := (PM z).D.set 0 { (PM z).D[0] with f6 := s } } := by
  obtain ⟨gd, cd, hv, hge, _, cells, hgc⟩ := Kd.R_form h.2.2.2.1 h1
  injection hv with hv1 _ hv2
  subst hv1
  subst hv2
  obtain ⟨c, hcl, hM, hcc, hfr⟩ := Kd.R_elem h.2.2.2.1 z65 0 (by omega) (by omega)
  have hx : (PM z).D.getD (0 : Int).toNat z65 = (PM z).D[0] := by
    show (PM z).D.getD 0 _ = _
    rw [List.getD_eq_getElem?_getD, List.getElem?_eq_getElem h1]; rfl
  rw [hx] at hM
  have hc := k65_openM hM
  subst hc
  refine ⟨gd, rfl, hcc 6 _ rfl, hfr 6, fun s => ?_⟩
  obtain ⟨hR, hG⟩ := Kd.R_seg (okp := fun _ => False) h.2.2.2.1 0 (by omega) (by omega) hcl hcc (seg := [.string s]) (j := 6) (x' := { (PM z).D[0] with f6 := s }) (by show 6 + 1 ≤ k65.sz; decide) (k65_mkM _ _ _ { (PM z).D[0] with f6 := s }) (fun _ hk => hk.elim)
  have hne : gb ≠ gd := fun e => by subst e; rw [h.1] at hgc; injection hgc with hgc; injection hgc with _ h2; exact absurd h2 (by decide)
  refine ⟨some ⟨g, 0, none⟩, cap, some ⟨gd, 0, none⟩, e10, ?_, h.2.1.setCell hge _, ?_, ?_⟩
  · refine (blk_grown h.1 hG (by intro he; injection he with he; exact hne he)).trans ?_
    show some (Obj.cells #[_, _, _, _, _, _, _, _, _, _, _, Value.slice _ (PM z).D.length _] _ _) = some (Obj.cells #[_, _, _, _, _, _, _, _, _, _, _, Value.slice _ ((PM z).D.set 0 _).length _] _ _)
    rw [List.length_set]; rfl
  · exact (Kd.S_reads' (Kd.S_set h.2.2.1 hgc (by decide) 6 _)).2.2
  · rw [show ((PM z).D.set 0 { (PM z).D[0] with f6 := s }).length = (PM z).D.length from List.length_set ..]
    have h2 := (Kd.R_reads' hR).2.2
    rw [show ((PM z).D.set (0 : Int).toNat { (PM z).D[0] with f6 := s }).length = (PM z).D.length from List.length_set ..] at h2
    exact h2
/-- An element of the sections, lent. -/
theorem c_lend (h : BcSt wa wb gb z g cap E10 e10) (k : Nat) (hk : k < (PM z).L.length) : ∃ (oki : Nat → Prop) (v10 v11 v12 : Value), (∀ j u, ([.string (PM z).L[k].f0, .int .u64 (PM z).L[k].f1, .int .u64 (PM z).L[k].f2, .int .u64 (PM z).L[k].f3, .int .u64 (PM z).L[k].f4, .int .u64 (PM z).L[k].f5, .int .u64 (PM z).L[k].f6, .int .u64 (PM z).L[k].f7, .int .u64 (PM z).L[k].f8, .string (PM z).L[k].f9, v10, v11, v12] : List Value)[j]? = some u → wb.cell? ⟨g, k * 13 + j, none⟩ = some u) ∧ (∀ j, wb.frozen? ⟨g, k * 13 + j, none⟩ = false) ∧ Kd.R k61 61 wb wa.heap.size oki v10 (PM z).L[k].f10 ∧ Kd.R k63 63 wb wa.heap.size oki v11 (PM z).L[k].f11 ∧ Kd.R (Kd.int .u64) 35 wb wa.heap.size oki v12 (PM z).L[k].f12 ∧ (∀ j, oki j → j ≠ g) ∧ Kd.H k58 58 wb wa.heap.size (fun _ => True) (.slice (some ⟨g, 0, none⟩) (PM z).L.length cap) (PM z).L (k : Int) oki [.string (PM z).L[k].f0, .int .u64 (PM z).L[k].f1, .int .u64 (PM z).L[k].f2, .int .u64 (PM z).L[k].f3, .int .u64 (PM z).L[k].f4, .int .u64 (PM z).L[k].f5, .int .u64 (PM z).L[k].f6, .int .u64 (PM z).L[k].f7, .int .u64 (PM z).L[k].f8, .string (PM z).L[k].f9, v10, v11, v12] := by
  obtain ⟨oki, c, hcl, hM, hcc, hfr, hoki, hH⟩ := Kd.S_elem h.2.2.1 z58 (k : Int) (by omega) (by omega)
  have hx : (PM z).L.getD (k : Int).toNat z58 = (PM z).L[k] := by
    rw [Int.toNat_natCast, List.getD_eq_getElem?_getD, List.getElem?_eq_getElem hk]; rfl
  rw [hx] at hM
  obtain ⟨v10, v11, v12, rfl, g10, g11, g12⟩ := k58_openM hM
  rw [Int.toNat_natCast] at hcc hfr
  exact ⟨oki, v10, v11, v12, hcc, hfr, g10, g11, g12, fun j hj => (hoki j hj).2, hH⟩
/-- Given back with one cell another one: behind w1, where the inner rows may have grown. -/
theorem c_back (h : BcSt wa wb gb z g cap E10 e10) (k : Nat) (hk : k < (PM z).L.length) {w1 : World} {oki : Nat → Prop} {row : Option Nat} {c : List Value} (hH : Kd.H k58 58 wb wa.heap.size (fun _ => True) (.slice (some ⟨g, 0, none⟩) (PM z).L.length cap) (PM z).L (k : Int) oki c) (hoki : ∀ j, oki j → j ≠ g)
    (hB : Below wa.heap.size wa w1) (hG : wb.grownBy w1 row) (hrow : ∀ q, row = some q → oki q ∧ ∃ t cells, t ≠ 39 ∧ t ≠ 65 ∧ wb.heap[q]? = some (.cells cells t (0, 0))) (j : Nat) (u : Value) (hj : j + 1 ≤ 13) (x' : S58)
    (hM : k58.M w1 wa.heap.size (fun q => oki q ∨ True ∧ wb.heap.size ≤ q) x' (c.take j ++ [u] ++ c.drop (j + 1))) :
    (w1.frozen? ⟨g, k * 13 + j, none⟩ = false ∧ ∀ u0, c[j]? = some u0 → w1.cell? ⟨g, k * 13 + j, none⟩ = some u0) ∧ ChSt wa (w1.setCell ⟨g, k * 13 + j, none⟩ u) gb { PM z with L := (PM z).L.set k x' } := by
  obtain ⟨hg, cells, hgc⟩ := h.row
  have hH1 := Kd.H_grown (Kd.H_widen hH) hG (fun q hq => .inl (hrow q hq).1)
  obtain ⟨hS, hG2⟩ := Kd.S_seg0 hH1 (by omega) (by omega) (seg := [u]) (j := j) (x' := x') (by show j + 1 ≤ k58.sz; exact hj) hM (fun _ hq => hq)
  obtain ⟨hat1, hat2⟩ := Kd.H_at hH1 (by omega) (by omega)
  rw [Int.toNat_natCast] at hS hG2 hat1 hat2
  have hne : gb ≠ g := fun e => by subst e; rw [h.1] at hgc; injection hgc with hgc; injection hgc with _ h2; exact absurd h2 (by decide)
  have hb1 := blk_grown h.1 hG (by
    intro he
    obtain ⟨_, t, cells, ht, _, hc⟩ := hrow gb he.symm
    rw [h.1] at hc; injection hc with hc; injection hc with _ h2; exact ht h2.symm)
  have hgc1 : w1.heap[g]? = some (.cells cells 58 (0, 0)) := blk_grown hgc hG (fun he => hoki g (hrow g he.symm).1 rfl)
  have hD1 : Kd.R k65 65 w1 wa.heap.size (fun _ => True) (.slice E10 (PM z).D.length e10) (PM z).D := by
    cases row with
    | none => exact Kd.R_over' (v := .slice none 0 0) h.2.2.2.1 (fun k hk => by simp [Value.ownBlock] at hk) (e' := 0) (by decide) hG
    | some q =>
      obtain ⟨_, t, cq, ht, ht2, hc⟩ := hrow q rfl
      exact Kd.R_over' (v := .slice (some ⟨q, 0, none⟩) 0 0) h.2.2.2.1 (fun k hk => ⟨cq, by
        have h2 : q = k := by simpa [Value.ownBlock] using hk
        subst h2; exact hc⟩) (e' := t) (by
          intro p hp
          have hp2 : p = 65 := List.mem_singleton.1 (show p ∈ [(65 : Nat)] from hp)
          rw [hp2]; exact fun e => ht2 e.symm) hG
  refine ⟨⟨hat2 j, hat1 j⟩, some ⟨g, 0, none⟩, cap, E10, e10, ?_, hB.setCell hg _, ?_, ?_⟩
  · refine (blk_grown hb1 hG2 (by intro he; injection he with he; exact hne he)).trans ?_
    show some (Obj.cells #[_, _, _, _, _, _, _, _, _, _, Value.slice _ (PM z).L.length _, _] _ _) = some (Obj.cells #[_, _, _, _, _, _, _, _, _, _, Value.slice _ ((PM z).L.set k _).length _, _] _ _)
    rw [List.length_set]; rfl
  · rw [show ((PM z).L.set k x').length = (PM z).L.length from List.length_set ..]
    have h2 := (Kd.S_reads' hS).2.2
    rw [show ((PM z).L.set k x').length = (PM z).L.length from List.length_set ..] at h2
    exact h2
  · exact (Kd.R_reads' (Kd.R_set hD1 hgc1 (by decide) _ _)).2.2
end
theorem clean_le2 (s : ByteArray) : (cleanB s).size ≤ 20 := by
  show ((s.data.toList.take 20).filter _).toArray.size ≤ 20
  rw [List.size_toArray]
  exact Nat.le_trans (List.length_filter_le _ _) (by rw [List.length_take]; omega)
theorem secR_small (x : S74) : (secR x).f0.size ≤ 20 ∧ (secR x).f9.size ≤ 50 := by
  refine ⟨clean_le2 _, ?_⟩
  unfold secR
  dsimp only
  split
  · exact Nat.zero_le _
  · rw [ByteArray.size_extract]; omega
theorem madeSecs_small (fl : Int) (ps : List S74) (ys : List S52) (rs : List S87) : ∀ x ∈ madeSecs fl ps ys rs, x.f0.size ≤ 20 ∧ x.f9.size ≤ 50 := by
  intro x hx
  unfold madeSecs at hx
  rcases List.mem_append.1 hx with hx | hx
  · unfold sectionsR at hx
    rcases List.mem_append.1 hx with hx | hx
    · simp only [List.mem_cons, List.not_mem_nil, or_false] at hx
      rcases hx with rfl | rfl <;> decide
    · obtain ⟨y, _, rfl⟩ := List.mem_map.1 hx
      exact secR_small _
  · split at hx
    · unfold moreSecs at hx
      dsimp only at hx
      rcases List.mem_append.1 hx with hx | hx
      · rcases List.mem_append.1 hx with hx | hx
        · rcases List.mem_append.1 hx with hx | hx
          · rcases List.mem_append.1 hx with hx | hx
            · split at hx
              · simp only [List.mem_cons, List.not_mem_nil, or_false] at hx; subst hx; decide
              · cases hx
            · simp only [List.mem_cons, List.not_mem_nil, or_false] at hx; subst hx; exact ⟨(by decide : 7 ≤ 20), (by decide : 0 ≤ 50)⟩
          · split at hx
            · simp only [List.mem_cons, List.not_mem_nil, or_false] at hx; subst hx; exact ⟨(by decide : 4 ≤ 20), (by decide : 0 ≤ 50)⟩
            · cases hx
        · split at hx
          · simp only [List.mem_cons, List.not_mem_nil, or_false] at hx; subst hx; exact ⟨(by decide : 6 ≤ 20), (by decide : 0 ≤ 50)⟩
          · cases hx
      · split at hx
        · simp only [List.mem_cons, List.not_mem_nil, or_false] at hx; subst hx; exact ⟨(by decide : 8 ≤ 20), (by decide : 0 ≤ 50)⟩
        · cases hx
    · cases hx
theorem PM_small (z : S27) : ∀ x ∈ (PM z).L, x.f0.size ≤ 20 ∧ x.f9.size ≤ 50 := by
  intro x hx
  obtain ⟨y, hy, rfl⟩ := List.mem_map.1 hx
  exact madeSecs_small z.f0 z.f1 z.f2 z.f3 y hy
theorem PM_seg (z : S27) : ∀ y ∈ (PM z).D, y.f6.size ≤ 40 := by
  intro y hy
  obtain ⟨s, hs, rfl⟩ := List.mem_map.1 hy
  unfold segsR at hs
  obtain ⟨q, _, rfl⟩ := List.mem_map.1 hs
  show ByteArray.size (ByteArray.extract _ _ _) ≤ 40
  rw [ByteArray.size_extract]; omega
theorem PM_in (z : S27) : ∀ x ∈ (PM z).L, x.f10.length ≤ 17 ∧ x.f11.length ≤ 6 ∧ x.f12.length ≤ 2 := planM_in _ _ _ _ _
section
variable {wa wb : World} {gb : Nat} {z : S27} {g cap : Nat} {E10 : Option Addr} {e10 : Nat}
theorem chg_L (m k : Nat) (z : S27) (h5 : 5 ≤ m) (h11 : m ≤ 11) (hk : k < (PM z).L.length) (x' : S58) (hx : chgS m (PM z).L[k] = x') : chgM m k (PM z) = { PM z with L := (PM z).L.set k x' } := by
  have e2 : (PM z).L.modify k (chgS m) = (PM z).L.set k x' := by rw [modify_set _ _ _ hk, hx]
  have h : m = 5 ∨ m = 6 ∨ m = 7 ∨ m = 8 ∨ m = 9 ∨ m = 10 ∨ m = 11 := by omega
  rcases h with rfl | rfl | rfl | rfl | rfl | rfl | rfl <;> (rw [← e2]; rfl)
/-- One cell of an element. -/
theorem c_cell (h : BcSt wa wb gb z g cap E10 e10) (k : Nat) (hk : k < (PM z).L.length) (m : Nat) (h5 : 5 ≤ m) (h8 : m ≤ 8) : ∃ v10 v11 v12, (∀ j u, ([.string (PM z).L[k].f0, .int .u64 (PM z).L[k].f1, .int .u64 (PM z).L[k].f2, .int .u64 (PM z).L[k].f3, .int .u64 (PM z).L[k].f4, .int .u64 (PM z).L[k].f5, .int .u64 (PM z).L[k].f6, .int .u64 (PM z).L[k].f7, .int .u64 (PM z).L[k].f8, .string (PM z).L[k].f9, v10, v11, v12] : List Value)[j]? = some u → wb.cell? ⟨g, k * 13 + j, none⟩ = some u) ∧ (∀ j, wb.frozen? ⟨g, k * 13 + j, none⟩ = false) ∧
    ∀ (j : Nat) (u : Value), j + 1 ≤ 13 → ([.string (PM z).L[k].f0, .int .u64 (PM z).L[k].f1, .int .u64 (PM z).L[k].f2, .int .u64 (PM z).L[k].f3, .int .u64 (PM z).L[k].f4, .int .u64 (PM z).L[k].f5, .int .u64 (PM z).L[k].f6, .int .u64 (PM z).L[k].f7, .int .u64 (PM z).L[k].f8, .string (PM z).L[k].f9, v10, v11, v12] : List Value).take j ++ [u] ++ ([.string (PM z).L[k].f0, .int .u64 (PM z).L[k].f1, .int .u64 (PM z).L[k].f2, .int .u64 (PM z).L[k].f3, .int .u64 (PM z).L[k].f4, .int .u64 (PM z).L[k].f5, .int .u64 (PM z).L[k].f6, .int .u64 (PM z).L[k].f7, .int .u64 (PM z).L[k].f8, .string (PM z).L[k].f9, v10, v11, v12] : List Value).drop (j + 1) = [.string (chgS m (PM z).L[k]).f0, .int .u64 (chgS m (PM z).L[k]).f1, .int .u64 (chgS m (PM z).L[k]).f2, .int .u64 (chgS m (PM z).L[k]).f3, .int .u64 (chgS m (PM z).L[k]).f4, .int .u64 (chgS m (PM z).L[k]).f5, .int .u64 (chgS m (PM z).L[k]).f6, .int .u64 (chgS m (PM z).L[k]).f7, .int .u64 (chgS m (PM z).L[k]).f8, .string (chgS m (PM z).L[k]).f9, v10, v11, v12] → ChSt wa (wb.setCell ⟨g, k * 13 + j, none⟩ u) gb (chgM m k (PM z)) := by
  obtain ⟨oki, v10, v11, v12, hcc, hfr, g10, g11, g12, hoki, hH⟩ := c_lend h k hk
  refine ⟨v10, v11, v12, hcc, hfr, fun j u hj hc => ?_⟩
  rw [chg_L m k z h5 (by omega) hk _ rfl]
  refine (c_back h k hk hH hoki h.2.1 (World.grownBy.refl wb none) (fun q hq => by cases hq) j u hj (chgS m (PM z).L[k]) ?_).2
  rw [hc]
  have hm : m = 5 ∨ m = 6 ∨ m = 7 ∨ m = 8 := by omega
  rcases hm with rfl | rfl | rfl | rfl <;> exact k58_mkM _ _ _ (chgS _ (PM z).L[k]) (Kd.R_mono g10 (fun _ h => .inl h)) (Kd.R_mono g11 (fun _ h => .inl h)) (Kd.R_mono g12 (fun _ h => .inl h))
/-- One more of an element's rows. -/
theorem c_row10 (h : BcSt wa wb gb z g cap E10 e10) (k : Nat) (hk : k < (PM z).L.length) {oki : Nat → Prop} {v10 v11 v12 : Value} (g10 : Kd.R k61 61 wb wa.heap.size oki v10 (PM z).L[k].f10) (g11 : Kd.R k63 63 wb wa.heap.size oki v11 (PM z).L[k].f11) (g12 : Kd.R (Kd.int .u64) 35 wb wa.heap.size oki v12 (PM z).L[k].f12) (hoki : ∀ j, oki j → j ≠ g) (hH : Kd.H k58 58 wb wa.heap.size (fun _ => True) (.slice (some ⟨g, 0, none⟩) (PM z).L.length cap) (PM z).L (k : Int) oki [.string (PM z).L[k].f0, .int .u64 (PM z).L[k].f1, .int .u64 (PM z).L[k].f2, .int .u64 (PM z).L[k].f3, .int .u64 (PM z).L[k].f4, .int .u64 (PM z).L[k].f5, .int .u64 (PM z).L[k].f6, .int .u64 (PM z).L[k].f7, .int .u64 (PM z).L[k].f8, .string (PM z).L[k].f9, v10, v11, v12])
    {A1 : Option Addr} {c1 : Nat} {w1 : World} (hR1 : Kd.R k61 61 w1 wa.heap.size (fun q => oki q ∨ True ∧ wb.heap.size ≤ q) (.slice A1 ((PM z).L[k].f10.length + 1) c1) ((PM z).L[k].f10 ++ [z61])) (hB1 : Below wa.heap.size wa w1) (hG1 : wb.grownBy w1 v10.ownBlock) :
    (w1.frozen? ⟨g, k * 13 + 10, none⟩ = false ∧ w1.cell? ⟨g, k * 13 + 10, none⟩ = some v10) ∧ ChSt wa (w1.setCell ⟨g, k * 13 + 10, none⟩ (.slice A1 ((PM z).L[k].f10.length + 1) c1)) gb (chgM 9 k (PM z)) := by
  rw [chg_L 9 k z (by decide) (by decide) hk _ rfl]
  have hb := c_back h k hk hH hoki hB1 hG1 (fun q hq => ⟨g10.1 q hq, by
    obtain ⟨cells, hc⟩ := Kd.R_typed g10 q hq
    exact ⟨_, cells, by decide, by decide, hc⟩⟩) 10 (.slice A1 ((PM z).L[k].f10.length + 1) c1) (by decide) (chgS 9 (PM z).L[k]) (k58_mkM _ _ _ (chgS 9 (PM z).L[k]) hR1 (Kd.R_mono (Kd.R_over' g11 (Kd.R_typed g10) (by decide) hG1) (fun _ h => .inl h)) (Kd.R_mono (Kd.R_over' g12 (Kd.R_typed g10) (by decide) hG1) (fun _ h => .inl h)))
  exact ⟨⟨hb.1.1, hb.1.2 _ rfl⟩, hb.2⟩
/-- One more of an element's rows. -/
theorem c_row11 (h : BcSt wa wb gb z g cap E10 e10) (k : Nat) (hk : k < (PM z).L.length) {oki : Nat → Prop} {v10 v11 v12 : Value} (g10 : Kd.R k61 61 wb wa.heap.size oki v10 (PM z).L[k].f10) (g11 : Kd.R k63 63 wb wa.heap.size oki v11 (PM z).L[k].f11) (g12 : Kd.R (Kd.int .u64) 35 wb wa.heap.size oki v12 (PM z).L[k].f12) (hoki : ∀ j, oki j → j ≠ g) (hH : Kd.H k58 58 wb wa.heap.size (fun _ => True) (.slice (some ⟨g, 0, none⟩) (PM z).L.length cap) (PM z).L (k : Int) oki [.string (PM z).L[k].f0, .int .u64 (PM z).L[k].f1, .int .u64 (PM z).L[k].f2, .int .u64 (PM z).L[k].f3, .int .u64 (PM z).L[k].f4, .int .u64 (PM z).L[k].f5, .int .u64 (PM z).L[k].f6, .int .u64 (PM z).L[k].f7, .int .u64 (PM z).L[k].f8, .string (PM z).L[k].f9, v10, v11, v12])
    {A1 : Option Addr} {c1 : Nat} {w1 : World} (hR1 : Kd.R k63 63 w1 wa.heap.size (fun q => oki q ∨ True ∧ wb.heap.size ≤ q) (.slice A1 ((PM z).L[k].f11.length + 1) c1) ((PM z).L[k].f11 ++ [z63])) (hB1 : Below wa.heap.size wa w1) (hG1 : wb.grownBy w1 v11.ownBlock) :
    (w1.frozen? ⟨g, k * 13 + 11, none⟩ = false ∧ w1.cell? ⟨g, k * 13 + 11, none⟩ = some v11) ∧ ChSt wa (w1.setCell ⟨g, k * 13 + 11, none⟩ (.slice A1 ((PM z).L[k].f11.length + 1) c1)) gb (chgM 10 k (PM z)) := by
  rw [chg_L 10 k z (by decide) (by decide) hk _ rfl]
  have hb := c_back h k hk hH hoki hB1 hG1 (fun q hq => ⟨g11.1 q hq, by
    obtain ⟨cells, hc⟩ := Kd.R_typed g11 q hq
    exact ⟨_, cells, by decide, by decide, hc⟩⟩) 11 (.slice A1 ((PM z).L[k].f11.length + 1) c1) (by decide) (chgS 10 (PM z).L[k]) (k58_mkM _ _ _ (chgS 10 (PM z).L[k]) (Kd.R_mono (Kd.R_over' g10 (Kd.R_typed g11) (by decide) hG1) (fun _ h => .inl h)) hR1 (Kd.R_mono (Kd.R_over' g12 (Kd.R_typed g11) (by decide) hG1) (fun _ h => .inl h)))
  exact ⟨⟨hb.1.1, hb.1.2 _ rfl⟩, hb.2⟩
/-- One more of an element's rows. -/
theorem c_row12 (h : BcSt wa wb gb z g cap E10 e10) (k : Nat) (hk : k < (PM z).L.length) {oki : Nat → Prop} {v10 v11 v12 : Value} (g10 : Kd.R k61 61 wb wa.heap.size oki v10 (PM z).L[k].f10) (g11 : Kd.R k63 63 wb wa.heap.size oki v11 (PM z).L[k].f11) (g12 : Kd.R (Kd.int .u64) 35 wb wa.heap.size oki v12 (PM z).L[k].f12) (hoki : ∀ j, oki j → j ≠ g) (hH : Kd.H k58 58 wb wa.heap.size (fun _ => True) (.slice (some ⟨g, 0, none⟩) (PM z).L.length cap) (PM z).L (k : Int) oki [.string (PM z).L[k].f0, .int .u64 (PM z).L[k].f1, .int .u64 (PM z).L[k].f2, .int .u64 (PM z).L[k].f3, .int .u64 (PM z).L[k].f4, .int .u64 (PM z).L[k].f5, .int .u64 (PM z).L[k].f6, .int .u64 (PM z).L[k].f7, .int .u64 (PM z).L[k].f8, .string (PM z).L[k].f9, v10, v11, v12])
    {A1 : Option Addr} {c1 : Nat} {w1 : World} (hR1 : Kd.R (Kd.int .u64) 35 w1 wa.heap.size (fun q => oki q ∨ True ∧ wb.heap.size ≤ q) (.slice A1 ((PM z).L[k].f12.length + 1) c1) ((PM z).L[k].f12 ++ [0])) (hB1 : Below wa.heap.size wa w1) (hG1 : wb.grownBy w1 v12.ownBlock) :
    (w1.frozen? ⟨g, k * 13 + 12, none⟩ = false ∧ w1.cell? ⟨g, k * 13 + 12, none⟩ = some v12) ∧ ChSt wa (w1.setCell ⟨g, k * 13 + 12, none⟩ (.slice A1 ((PM z).L[k].f12.length + 1) c1)) gb (chgM 11 k (PM z)) := by
  rw [chg_L 11 k z (by decide) (by decide) hk _ rfl]
  have hb := c_back h k hk hH hoki hB1 hG1 (fun q hq => ⟨g12.1 q hq, by
    obtain ⟨cells, hc⟩ := Kd.R_typed g12 q hq
    exact ⟨_, cells, by decide, by decide, hc⟩⟩) 12 (.slice A1 ((PM z).L[k].f12.length + 1) c1) (by decide) (chgS 11 (PM z).L[k]) (k58_mkM _ _ _ (chgS 11 (PM z).L[k]) (Kd.R_mono (Kd.R_over' g10 (Kd.R_typed g12) (by decide) hG1) (fun _ h => .inl h)) (Kd.R_mono (Kd.R_over' g11 (Kd.R_typed g12) (by decide) hG1) (fun _ h => .inl h)) hR1)
  exact ⟨⟨hb.1.1, hb.1.2 _ rfl⟩, hb.2⟩
end
end Go.Proofs.YthphhogljniofaaDoor

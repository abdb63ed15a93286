/- Laws on a region that draws: allocations that no call waits for may come anywhere between the calls. -/
import Derived.Test.YthphhogljniofaaDoorXKdM17D
namespace Go.Proofs.YthphhogljniofaaDoor
set_option linter.unusedVariables false
set_option linter.unusedSimpArgs false
open Go.RowKit Go.Proofs.YthphhogljniofaaDoorW.PrintWords Go.Proofs.YthphhogljniofaaDoorW.PrintLast Go.Proofs.YthphhogljniofaaDoorW.PrintMore

/-- What is done when c of the calls ms are, and of the allocations fs those that b tells. -/
def maskF (n : Nat) (pre ms fs : List Nat) (c : Nat) (b : List Bool) : Array Bool := ((List.range n).map fun i => pre.contains i || (ms.take c).contains i || (fs.zip b).any fun p => p.1 == i && p.2).toArray
def allB : Nat → List (List Bool)
 | 0 => [[]]
 | m + 1 => (allB m).map (false :: ·) ++ (allB m).map (true :: ·)
theorem mem_allB : ∀ b : List Bool, b ∈ allB b.length
 | [] => by simp [allB]
 | false :: r => by simp only [List.length_cons, allB, List.mem_append, List.mem_map]; exact .inl ⟨r, mem_allB r, rfl⟩
 | true :: r => by simp only [List.length_cons, allB, List.mem_append, List.mem_map]; exact .inr ⟨r, mem_allB r, rfl⟩
def floatB (md : Region.Mode) (ops : Array Oper) (n : Nat) (pre ms fs : List Nat) (c : Nat) (b : List Bool) : Bool :=
 let l := maskF n pre ms fs c b
 let rs := Region.ready md ops l
 (!(rs == []) || (c == ms.length && b.all id)) && rs.all fun i => (decide (c < ms.length) && ms[c]? == some i && l.setIfInBounds i true == maskF n pre ms fs (c + 1) b) || (c == ms.length && b.all id) || (List.range fs.length).any fun j => b[j]? == some false && fs[j]? == some i && l.setIfInBounds i true == maskF n pre ms fs c (b.set j true)
def floatsB (md : Region.Mode) (ops : Array Oper) (n : Nat) (pre ms fs : List Nat) : Bool := (List.range (ms.length + 1)).all fun c => (allB fs.length).all fun b => floatB md ops n pre ms fs c b
theorem all_set {b : List Bool} : b.all id = true ∨ ∃ j : Nat, b[j]? = some false := by
 by_cases h : b.all id = true
 ·exact .inl h
 ·right
  simp only [List.all_eq_true, id_eq, Classical.not_forall] at h
  obtain ⟨x, hx, hn⟩ := h
  obtain ⟨j, hj⟩ := List.mem_iff_getElem?.1 hx
  refine ⟨j, ?_⟩
  rw [hj]
  cases x
  ·rfl
  ·exact absurd rfl hn
theorem count_set : ∀ (b : List Bool) (j : Nat), b[j]? = some false → (b.set j true).countP (fun x => !x) + 1 = b.countP (fun x => !x)
 | [], j, h => by simp at h
 | x :: r, 0, h => by
  have hx : x = false := by simpa using h
  subst hx
  simp
 | x :: r, j + 1, h => by
  have h2 := count_set r j (by simpa using h)
  rw [List.set_cons_succ]
  rw [List.countP_cons, List.countP_cons]
  omega
theorem floats_ {P : Program} {md : Region.Mode} {ops : Array Oper} {Q : Exit → Act → World → Prop} {S : World → Prop} {ds : List Nat} {a0 : Act} (n : Nat) (pre ms fs : List Nat) (hB : floatsB md ops n pre ms fs = true) (St : Act → Nat → List Bool → Act → World → Prop) (hSt : ∀ c b a w, St a0 c b a w → S w)
  (hmain : ∀ c i b a w, ms[c]? = some i → St a0 c b a w → wpOp P ops Q i (fun a' w' => St a0 (c + 1) b a' w') a w)
  (hfl : ∀ c j i b a w, fs[j]? = some i → b.length = fs.length → b[j]? = some false → St a0 c b a w → wpOp P ops Q i (fun a' w' => St a0 c (b.set j true) a' w') a w)
  (fuel : Nat) (hend : ∀ b a w, b.length = fs.length → b.all id = true → St a0 ms.length b a w → wpAnyLast P md ops Q S ds fuel (maskF n pre ms fs ms.length b) a w) :
  ∀ (d c : Nat) (b : List Bool) (a : Act) (w : World), c ≤ ms.length → b.length = fs.length → (ms.length - c) + b.countP (fun x => !x) = d → St a0 c b a w → wpAnyLast P md ops Q S ds (d + fuel) (maskF n pre ms fs c b) a w := by
 intro d
 induction d with
 | zero =>
  intro c b a w hc hb hd h
  have hce : c = ms.length := by omega
  subst hce
  have hall : b.all id = true := by
   rcases all_set (b := b) with h1 | ⟨j, hj⟩
   ·exact h1
   ·have := count_set b j hj; omega
  have hz : 0 + fuel = fuel := by omega
  rw [hz]
  exact hend b a w hb hall h
 | succ d ih =>
  intro c b a w hc hb hd h
  have hk : floatB md ops n pre ms fs c b = true := by
   unfold floatsB at hB
   have h1 := List.all_eq_true.1 hB c (List.mem_range.2 (by omega))
   exact List.all_eq_true.1 h1 b (by rw [← hb]; exact mem_allB b)
  have hnot : ¬ (c = ms.length ∧ b.all id = true) := by
   rintro ⟨rfl, hall⟩
   have : b.countP (fun x => !x) = 0 := by
    rw [List.countP_eq_zero]
    intro x hx
    have := List.all_eq_true.1 hall x hx
    simpa using this
   omega
  unfold floatB at hk
  simp only [Bool.and_eq_true, Bool.or_eq_true, Bool.not_eq_true', beq_eq_false_iff_ne, ne_eq, beq_iff_eq, List.all_eq_true, decide_eq_true_eq, List.any_eq_true, List.mem_range] at hk
  obtain ⟨hne, hall⟩ := hk
  have hf : d + 1 + fuel = (d + fuel) + 1 := by omega
  rw [hf]
  refine wpAnyLast_all rfl (by
   rcases hne with hne | ⟨h1, h2⟩
   ·exact hne
   ·exact absurd ⟨h1, List.all_eq_true.2 h2⟩ hnot) (fun i hi => ?_)
  rcases hall i hi with (⟨⟨h1, h2⟩, h3⟩ | ⟨h1, h2⟩) | ⟨j, hj, ⟨h2, h3⟩, h4⟩
  ·refine wpOp_mono (fun a' w' hs => ⟨fun _ _ => hSt _ _ _ _ hs, ?_⟩) (hmain c i b a w h2 h)
   rw [h3]
   exact ih (c + 1) b a' w' (by omega) hb (by omega) hs
  ·exact absurd ⟨h1, List.all_eq_true.2 h2⟩ hnot
  ·refine wpOp_mono (fun a' w' hs => ⟨fun _ _ => hSt _ _ _ _ hs, ?_⟩) (hfl c j i b a w h3 hb h2 h)
   rw [h4]
   exact ih c (b.set j true) a' w' hc (by rw [List.length_set]; exact hb) (by have := count_set b j h2; omega) hs
theorem floats0 {P : Program} {md : Region.Mode} {ops : Array Oper} {Q : Exit → Act → World → Prop} {S : World → Prop} {ds : List Nat} {a0 : Act} (n : Nat) (pre ms fs : List Nat) (hB : floatsB md ops n pre ms fs = true) (St : Act → Nat → List Bool → Act → World → Prop) (hSt : ∀ c b a w, St a0 c b a w → S w)
  (hmain : ∀ c i b a w, ms[c]? = some i → St a0 c b a w → wpOp P ops Q i (fun a' w' => St a0 (c + 1) b a' w') a w)
  (hfl : ∀ c j i b a w, fs[j]? = some i → b.length = fs.length → b[j]? = some false → St a0 c b a w → wpOp P ops Q i (fun a' w' => St a0 c (b.set j true) a' w') a w)
  (fuel : Nat) (hend : ∀ b a w, b.length = fs.length → b.all id = true → St a0 ms.length b a w → wpAnyLast P md ops Q S ds fuel (maskF n pre ms fs ms.length b) a w) (d : Nat) (b : List Bool) (hb : b.length = fs.length) (hd : ms.length + b.countP (fun x => !x) = d) {w : World} (h0 : St a0 0 b a0 w) : wpAnyLast P md ops Q S ds (d + fuel) (maskF n pre ms fs 0 b) a0 w :=
 floats_ n pre ms fs hB St hSt hmain hfl fuel hend d 0 b a0 w (Nat.zero_le _) hb (by omega) h0
theorem op_step {P : Program} {ops : Array Oper} {Q : Exit → Act → World → Prop} {i : Nat} {N : Option Tmp} {oi : Oper} {K : Act → World → Prop} {a : Act} {w : World} (hi : ops[i]? = some oi) (hN : oi.dst = N)
  (h : ∀ K' : Act → World → Prop, (∀ a w, K a w → K' a w) → if Region.wanted oi (yielded ops a.tmps) = true then Oper.wp P oi a w K' Q else K' (a.put N undef) w) : wpOp P ops Q i K a w := by
 subst hN
 exact wpOp_step hi h
end Go.Proofs.YthphhogljniofaaDoor

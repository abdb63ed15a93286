/- Plain laws: ArlistSplits comes to true. -/
import Derived.Test.YtienjagoplcimaaXSpP23A
import Derived.Test.YtienjagoplcimaaXSpx3
namespace Go.Proofs.YtienjagoplcimaaX.Sp
set_option linter.unusedVariables false
set_option linter.unusedSimpArgs false
open Go.RowKit Go.Proofs.Ytienjagoplcimaa Go.Proofs.YtienjagoplcimaaW.PrintWords Go.Proofs.YtienjagoplcimaaW.PrintLast Go.Proofs.YtienjagoplcimaaW.PrintMore

theorem l4_ev (X : List M) (e : Int) (hl : X.length ≤ 1000) : ∀ d j, j + d = X.length → Ev (fun k => graverlaw23_ArlistSplits.l4 k X e X (j : Int)) true := by
  intro d
  induction d with
  | zero =>
    intro j hj
    refine Ev.step (f := fun _ => some true) (fun k => ?_) (Ev.now _)
    simp only [graverlaw23_ArlistSplits.l4]; rw [if_neg (by omega)]
  | succ d ih =>
    intro j hj
    by_cases he : e = 0
    · refine Ev.step (f := fun k => graverlaw23_ArlistSplits.l4 k X e X ((j + 1 : Nat) : Int)) (fun k => ?_) (ih (j + 1) (by omega))
      simp only [graverlaw23_ArlistSplits.l4]
      rw [if_pos (by omega), if_pos he, if_pos (by omega), if_pos (by omega), if_neg (by simp), wrap_up j (by omega)]
    · refine Ev.step (f := fun _ => some true) (fun k => ?_) (Ev.now _)
      simp only [graverlaw23_ArlistSplits.l4]
      rw [if_pos (by omega), if_neg he]
theorem l4_ne (X Y : List M) (e : Int) (he : e ≠ 0) : Ev (fun k => graverlaw23_ArlistSplits.l4 k X e Y 0) true := by
  refine Ev.step (f := fun _ => some true) (fun k => ?_) (Ev.now _)
  simp only [graverlaw23_ArlistSplits.l4]
  split
  · first | rfl | rw [if_neg he]
  · rfl
theorem l3_ev (A X Y : List M) (e : Int) (hl : A.length ≤ 1000) (h4 : Ev (fun k => graverlaw23_ArlistSplits.l4 k X e Y 0) true) : ∀ d j, j + d = A.length → Ev (fun k => graverlaw23_ArlistSplits.l3 k A A X e Y (j : Int)) true := by
  intro d
  induction d with
  | zero =>
    intro j hj
    refine Ev.step (fun k => ?_) h4
    simp only [graverlaw23_ArlistSplits.l3]; rw [if_neg (by omega)]
  | succ d ih =>
    intro j hj
    refine Ev.step (f := fun k => graverlaw23_ArlistSplits.l3 k A A X e Y ((j + 1 : Nat) : Int)) (fun k => ?_) (ih (j + 1) (by omega))
    simp only [graverlaw23_ArlistSplits.l3]
    rw [if_pos (by omega), if_pos (by omega), if_pos (by omega), if_neg (by simp), wrap_up j (by omega)]
theorem j5_ev (A X Y : List M) (e : Int) (hl : A.length ≤ 1000) (hx : X.length ≤ 1000) (hXY : e = 0 → X = Y) : Ev (fun k => graverlaw23_ArlistSplits.j5 k A 0 A 0 X e Y e) true := by
  refine Ev.step (f := fun k => graverlaw23_ArlistSplits.j6 k A A X e Y false) (fun k => ?_) (Ev.step (f := fun k => graverlaw23_ArlistSplits.l3 k A A X e Y 0) (fun k => ?_) ?_)
  · simp only [graverlaw23_ArlistSplits.j5, if_true]
    by_cases he : e = 0
    · rw [if_pos he, hXY he]; simp
    · rw [if_neg he]
  · simp [graverlaw23_ArlistSplits.j6]
  · refine l3_ev A X Y e hl ?_ A.length 0 (by omega)
    by_cases he : e = 0
    · rw [← hXY he]; exact l4_ev X e hx X.length 0 (by omega)
    · exact l4_ne X Y e he
theorem cutn (x : Int) (L : Nat) (hL : L ≤ 100) : ∃ n : Nat, n ≤ L ∧ (Int.tmod (wrap64 ((wrap64 ((Int.tmod x (wrap64 ((L : Int) + 1))) + (L : Int))) + 1)) (wrap64 ((L : Int) + 1))) = (n : Int) := by
  rw [wrap_s (x := (L : Int) + 1) (by omega) (by omega)]
  obtain ⟨r, hr⟩ : ∃ r, r = Int.tmod x ((L : Int) + 1) := ⟨_, rfl⟩
  have h1 : r < (L : Int) + 1 := by rw [hr]; exact Int.tmod_lt_of_pos x (by omega)
  have h2 : -((L : Int) + 1) < r := by rw [hr]; exact Int.lt_tmod_of_pos x (by omega)
  rw [← hr, wrap_s (x := r + (L : Int)) (by omega) (by omega), wrap_s (by omega) (by omega)]
  have h3 : 0 ≤ Int.tmod (r + (L : Int) + 1) ((L : Int) + 1) := Int.tmod_nonneg _ (by omega)
  have h4 : Int.tmod (r + (L : Int) + 1) ((L : Int) + 1) < (L : Int) + 1 := Int.tmod_lt_of_pos _ (by omega)
  exact ⟨(Int.tmod (r + (L : Int) + 1) ((L : Int) + 1)).toNat, by omega, by omega⟩
theorem del_f (x : List M) (ns : List ByteArray) (h1 : x.length ≤ 1000) (h2 : ns.length ≤ 1000) : arlist_Delete.f x ns = some ((deleteR (x.map toM) ns).1.map ofM, (deleteR (x.map toM) ns).2) := by
  unfold arlist_Delete.f; rw [if_pos (by omega)]
theorem deleteR_len (x : List MemD) (ns : List ByteArray) : (deleteR x ns).1.length ≤ x.length := by
  unfold deleteR
  cases h : delR x ns with
  | none => simp
  | some y => exact delR_len _ _ _ h
theorem fin_ev (x2 : Int) (x7 x8 : List M) (h7 : x7.length ≤ 8) (h8 : x8.length ≤ 6) (hg : ∀ m ∈ x8, GoodN m.f0) :
    Ev (fun k => graverlaw23_ArlistSplits.j4 k x2 x7 x8 (x8.map (·.f0))) true := by
  obtain ⟨n, hn, hcut⟩ := cutn x2 x8.length (by omega)
  obtain ⟨A, hA⟩ : ∃ A, A = x8.foldl repl1 x7 := ⟨_, rfl⟩
  have hAl := fold_len x8 x7
  rw [← hA] at hAl
  have hBl := fold_len (x8.take n) x7
  have htl : (x8.take n).length ≤ 6 := by rw [List.length_take]; omega
  have hdl : (x8.drop n).length ≤ 6 := by rw [List.length_drop]; omega
  have r1 := repl_ev x7 x8 hg (by omega)
  have r2 := repl_ev x7 (x8.take n) (fun m hm => hg m (List.mem_of_mem_take hm)) (by omega)
  have r3 := repl_ev ((x8.take n).foldl repl1 x7) (x8.drop n) (fun m hm => hg m (List.mem_of_mem_drop hm)) (by omega)
  rw [← List.foldl_append, List.take_append_drop, ← hA] at r3
  rw [← hA] at r1
  obtain ⟨ns, hns⟩ : ∃ ns, ns = x8.map (·.f0) := ⟨_, rfl⟩
  have hnl : ns.length = x8.length := by rw [hns, List.length_map]
  rw [← hns]
  obtain ⟨L, hL⟩ : ∃ L, L = x7.map toM := ⟨_, rfl⟩
  have hLl : L.length = x7.length := by rw [hL, List.length_map]
  have d1 := del_f x7 ns (by omega) (by omega)
  have d2 := del_f x7 (ns.take n) (by omega) (by rw [List.length_take]; omega)
  rw [← hL] at d1 d2
  have hlen1 := deleteR_len L ns
  have hap : delR L ns = (delR L (ns.take n)).bind fun y => delR y (ns.drop n) := by rw [← delR_append, List.take_append_drop]
  have hw : wrap64 ((x8.length : Int) + 1) ≠ 0 := by rw [wrap_s (by omega) (by omega)]; omega
  refine Ev.step (f := fun k => (arlist_Replace.f k x7 x8).bind fun bt135 => (arlist_Replace.f k x7 (x8.take n)).bind fun bt143 => (arlist_Replace.f k bt143.1 (x8.drop n)).bind fun bt151 => (arlist_Delete.f x7 ns).bind fun bt155 => (arlist_Delete.f x7 (ns.take n)).bind fun bt163 => if bt163.2 = 0 then ((arlist_Delete.f bt163.1 (ns.drop n)).bind fun bt171 => graverlaw23_ArlistSplits.j5 k bt135.1 bt135.2 bt151.1 bt151.2 bt155.1 bt155.2 bt171.1 bt171.2) else graverlaw23_ArlistSplits.j5 k bt135.1 bt135.2 bt151.1 bt151.2 bt155.1 bt155.2 bt163.1 bt163.2) (fun k => ?_) ?_
  · simp only [graverlaw23_ArlistSplits.j4, hcut, Int.toNat_natCast]
    rw [if_neg hw]
    simp only [if_pos (show (0 : Int) ≤ (n : Int) by omega), if_pos (show (n : Int) ≤ (x8.length : Int) by omega), if_pos (show (n : Int) ≤ (ns.length : Int) by omega)]
  · refine Ev.bind r1 (Ev.bind r2 (Ev.bind r3 ?_))
    refine Ev.congr (fun k => by rw [d1, d2, Option.bind_some, Option.bind_some]) ?_
    cases hq : delR L (ns.take n) with
    | none =>
      rw [hq] at hap
      have e1 : deleteR L ns = ([], 21) := by unfold deleteR; rw [hap]; rfl
      have e2 : deleteR L (ns.take n) = ([], 21) := by unfold deleteR; rw [hq]
      rw [e1, e2]
      refine Ev.congr (fun k => by simp only []; rw [if_neg (by decide)]) (j5_ev A _ _ 21 (by omega) (by simp) (fun h => absurd h (by decide)))
    | some y =>
      rw [hq, Option.bind_some] at hap
      have hyl := delR_len _ _ _ hq
      have e2 : deleteR L (ns.take n) = (y, 0) := by unfold deleteR; rw [hq]
      have e3 : deleteR y (ns.drop n) = deleteR L ns := by unfold deleteR; rw [hap]
      have d3 := del_f (y.map ofM) (ns.drop n) (by rw [List.length_map]; omega) (by rw [List.length_drop]; omega)
      rw [toM_ofM, e3] at d3
      rw [e2]
      refine Ev.congr (fun k => by simp only [if_true]; rw [d3, Option.bind_some]) (j5_ev A _ _ _ (by omega) (by rw [List.length_map]; omega) (fun _ => rfl))
theorem name_eq (s : Int) : ∃ c, c < 19 ∧ (⟨#[109]⟩ : ByteArray) ++ strOfNums [(wrap64 (97 + (Int.tmod s 10))) % 256] = nm c ∧ (strOfNums [(wrap64 (97 + (Int.tmod s 10))) % 256]).size = 1 := by
  obtain ⟨r, hr⟩ : ∃ r, r = Int.tmod s 10 := ⟨_, rfl⟩
  have h1 : r < 10 := by rw [hr]; exact Int.tmod_lt_of_pos s (by omega)
  have h2 : -10 < r := by rw [hr]; exact Int.lt_tmod_of_pos s (by omega)
  obtain ⟨c, hc⟩ : ∃ c : Nat, (c : Int) = r + 9 := ⟨(r + 9).toNat, by omega⟩
  have hc10 : c < 19 := by omega
  rw [← hr, wrap_s (by omega) (by omega), show 97 + r = 88 + (c : Int) by omega]
  have : ∀ c : Fin 19, (⟨#[109]⟩ : ByteArray) ++ strOfNums [(88 + (c.1 : Int)) % 256] = nm c.1 ∧ (strOfNums [(88 + (c.1 : Int)) % 256]).size = 1 := by decide
  exact ⟨c, hc10, this ⟨c, hc10⟩⟩
theorem l2_ev (x1 : List ByteArray) (x2 : Int) (x7 x8 : List M) (i : Nat) (hi : i < x1.length) (h8 : x8.length = i) (h6 : i < 6) (t : ByteArray) (ht : t = rdOf ByteArray.empty x1 (i : Int)) (hts : t.size ≤ 9223372036854775807)
    (H : ∀ c, c < 19 → Ev (fun k => graverlaw23_ArlistSplits.l1 k x1 x2 x7 (x8 ++ [⟨nm c, 0, 0, 0, 0, t⟩]) (x8.map (·.f0) ++ [nm c]) ((i + 1 : Nat) : Int)) true) :
    ∀ d j : Nat, j + d = t.size → ∀ s : Int, Ev (fun k => graverlaw23_ArlistSplits.l2 k x1 x2 x7 x8 (x8.map (·.f0)) (i : Int) s (j : Int)) true := by
  intro d
  induction d with
  | zero =>
    intro j hj s
    obtain ⟨c, hc, hn, hsz⟩ := name_eq s
    refine Ev.step (f := fun k => graverlaw23_ArlistSplits.l1 k x1 x2 x7 (x8 ++ [⟨nm c, 0, 0, 0, 0, t⟩]) (x8.map (·.f0) ++ [nm c]) ((i + 1 : Nat) : Int)) (fun k => ?_) (H c hc)
    simp only [graverlaw23_ArlistSplits.l2, ← ht]
    rw [if_pos (by omega), if_pos (by omega), if_neg (by omega), Option.bind_some, if_pos (by rw [hsz]; decide), if_pos (by omega), Option.bind_some, hn, if_pos (by rw [List.length_append]; simp; omega), if_pos (by rw [List.length_map]; omega), wrap_up i (by omega)]
    congr 1
    rw [rd28 _ i (by rw [List.length_append]; simp; omega), List.getElem_append_right (by omega)]
    simp [h8]
  | succ d ih =>
    intro j hj s
    refine Ev.step (f := fun k => graverlaw23_ArlistSplits.l2 k x1 x2 x7 x8 (x8.map (·.f0)) (i : Int) (wrap64 (s + wrap64 (bt t (j : Int)))) ((j + 1 : Nat) : Int)) (fun k => ?_) (ih (j + 1) (by omega) _)
    simp only [graverlaw23_ArlistSplits.l2, ← ht]
    rw [if_pos (by omega), if_pos (by omega), if_pos (by omega), if_pos (by omega), wrap_s (x := (j : Int) + 1) (by omega) (by omega)]
    rfl
theorem l1_ev (x1 : List ByteArray) (x2 : Int) (x7 : List M) (h7 : x7.length ≤ 8) (hts : ∀ t ∈ x1, t.size ≤ 9223372036854775807) : ∀ d (x8 : List M), x8.length + d = 6 → x8.length ≤ x1.length → (∀ m ∈ x8, GoodN m.f0) →
    Ev (fun k => graverlaw23_ArlistSplits.l1 k x1 x2 x7 x8 (x8.map (·.f0)) (x8.length : Int)) true := by
  intro d
  induction d with
  | zero =>
    intro x8 h8 hle hg
    refine Ev.step (fun k => ?_) (fin_ev x2 x7 x8 h7 (by omega) hg)
    simp only [graverlaw23_ArlistSplits.l1]
    split
    · rw [if_neg (by omega)]
    · rfl
  | succ d ih =>
    intro x8 h8 hle hg
    by_cases hlt : x8.length < x1.length
    · obtain ⟨t, ht⟩ : ∃ t, t = rdOf ByteArray.empty x1 (x8.length : Int) := ⟨_, rfl⟩
      have htm : t ∈ x1 := by rw [ht]; unfold rdOf; simp [hlt]
      refine Ev.step (f := fun k => graverlaw23_ArlistSplits.l2 k x1 x2 x7 x8 (x8.map (·.f0)) (x8.length : Int) 0 0) (fun k => ?_) ?_
      · simp only [graverlaw23_ArlistSplits.l1]
        rw [if_pos (by omega), if_pos (by omega)]
      · refine l2_ev x1 x2 x7 x8 x8.length hlt rfl (by omega) t ht (hts t htm) (fun c hc => ?_) t.size 0 (by omega) 0
        have := ih (x8 ++ [⟨nm c, 0, 0, 0, 0, t⟩]) (by rw [List.length_append]; simp; omega) (by rw [List.length_append]; simp; omega) (fun m hm => by
          rcases List.mem_append.1 hm with hm | hm
          · exact hg m hm
          · rw [List.mem_singleton.1 hm]; exact ⟨c, hc, rfl⟩)
        rw [List.map_append, List.length_append] at this
        exact this
    · refine Ev.step (fun k => ?_) (fin_ev x2 x7 x8 h7 (by omega) hg)
      simp only [graverlaw23_ArlistSplits.l1]
      rw [if_neg (by omega)]
theorem l0_ev (x0 x1 : List ByteArray) (x2 : Int) (hts : ∀ t ∈ x1, t.size ≤ 9223372036854775807) : ∀ d (x7 : List M), x7.length + d = 8 → Ev (fun k => graverlaw23_ArlistSplits.l0 k x0 x1 x2 x7 (x7.length : Int)) true := by
  have hj1 : ∀ x7 : List M, x7.length ≤ 8 → Ev (fun k => graverlaw23_ArlistSplits.j1 k x1 x2 x7 []) true := fun x7 h7 =>
    Ev.step (f := fun k => graverlaw23_ArlistSplits.l1 k x1 x2 x7 [] [] 0) (fun k => by simp only [graverlaw23_ArlistSplits.j1]) (l1_ev x1 x2 x7 h7 hts 6 [] rfl (Nat.zero_le _) (fun m hm => by cases hm))
  intro d
  induction d with
  | zero =>
    intro x7 h7
    refine Ev.step (fun k => ?_) (hj1 x7 (by omega))
    simp only [graverlaw23_ArlistSplits.l0]
    split
    · rw [if_neg (by omega)]
    · rfl
  | succ d ih =>
    intro x7 h7
    by_cases hlt : x7.length < x0.length
    · obtain ⟨y, hy⟩ : ∃ y, y = (⟨#[109]⟩ : ByteArray) ++ strOfNums [(wrap64 (97 + (x7.length : Int))) % 256] := ⟨_, rfl⟩
      obtain ⟨z, hz⟩ : ∃ z : M, z = ⟨y, 0, 0, 0, 0, rdOf ByteArray.empty x0 (x7.length : Int)⟩ := ⟨_, rfl⟩
      have hih := ih (x7 ++ [z]) (by rw [List.length_append]; simp; omega)
      rw [show ((x7 ++ [z]).length) = x7.length + 1 by simp] at hih
      have hsz : (strOfNums [(wrap64 (97 + (x7.length : Int))) % 256]).size = 1 := by
        have : ∀ c : Fin 8, (strOfNums [(wrap64 (97 + (c.1 : Int))) % 256]).size = 1 := by decide
        exact this ⟨x7.length, by omega⟩
      refine Ev.step (f := fun k => graverlaw23_ArlistSplits.l0 k x0 x1 x2 (x7 ++ [z]) ((x7.length + 1 : Nat) : Int)) (fun k => ?_) hih
      simp only [graverlaw23_ArlistSplits.l0]
      rw [if_pos (by omega), if_pos (by omega), Option.bind_some, if_pos (by rw [hsz]; decide), if_pos (by omega), if_pos (by omega), wrap_up x7.length (by omega), ← hy, ← hz]
    · refine Ev.step (fun k => ?_) (hj1 x7 (by omega))
      simp only [graverlaw23_ArlistSplits.l0]
      rw [if_neg (by omega)]
theorem splits_ev (l0 l1 : List ByteArray) (a2 : Int) (hts : ∀ t ∈ l1, t.size ≤ 9223372036854775807) : Ev (fun k => graverlaw23_ArlistSplits.f k l0 l1 a2) true := by
  refine Ev.congr (fun k => ?_) (l0_ev l0 l1 a2 hts 8 [] rfl)
  unfold graverlaw23_ArlistSplits.f
  rfl
end Go.Proofs.YtienjagoplcimaaX.Sp

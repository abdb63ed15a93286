/- Plain law of layer 25: any table as text, and back. -/
import Derived.Test.YtipnoeffahnfaaaDoorXRoP25B
import Derived.Test.YtipnoeffahnfaaaDoorXRox2
namespace Go.Proofs.YtipnoeffahnfaaaDoorX.Ro
set_option linter.unusedVariables false
set_option linter.unusedSimpArgs false
open Go.RowKit Go.Proofs.YtipnoeffahnfaaaDoor Go.Proofs.YtipnoeffahnfaaaDoorW.PrintWords Go.Proofs.YtipnoeffahnfaaaDoorW.PrintLast Go.Proofs.YtipnoeffahnfaaaDoorW.PrintMore

theorem flat_ge : ∀ x : List UInt8, x.length ≤ (x.flatMap encC).length
  | [] => by simp
  | c :: r => by
    have := flat_ge r
    have := List.length_pos_iff.2 (enc_ne c)
    rw [List.flatMap_cons, List.length_append, List.length_cons]; omega
theorem cell_ge (x : List UInt8) : x.length ≤ (cellR x).length := by
  unfold cellR; split
  · rename_i h; subst h; simp
  · exact flat_ge x
theorem line_ge : ∀ r : List (List UInt8), r.length ≤ (lineC r).length ∧ ∀ x ∈ r, x.length ≤ (lineC r).length
  | [] => ⟨by simp, fun x hx => by cases hx⟩
  | [x] => by
    have e : lineC [x] = cellR x := by unfold lineC; simp [List.intercalate]
    rw [e]
    have := List.length_pos_iff.2 (cell_ne x)
    refine ⟨by simp only [List.length_cons, List.length_nil]; omega, fun y hy => ?_⟩
    obtain rfl := List.mem_singleton.1 hy
    exact cell_ge y
  | x :: y :: r => by
    have e : lineC (x :: y :: r) = cellR x ++ 32 :: lineC (y :: r) := by unfold lineC; simp [List.intercalate]
    obtain ⟨h1, h2⟩ := line_ge (y :: r)
    have hx := cell_ge x
    have hl : (lineC (x :: y :: r)).length = (cellR x).length + (lineC (y :: r)).length + 1 := by rw [e, List.length_append, List.length_cons]; omega
    rw [hl]
    refine ⟨by rw [List.length_cons]; omega, fun z hz => ?_⟩
    rcases List.mem_cons.1 hz with rfl | hz
    · omega
    · have := h2 z hz; omega
theorem render_ge : ∀ l : List (List (List UInt8)), l.length ≤ (renderC l).length ∧ ∀ r ∈ l, r.length ≤ (renderC l).length ∧ ∀ x ∈ r, x.length ≤ (renderC l).length
  | [] => ⟨by simp, fun r hr => by cases hr⟩
  | r :: l => by
    have e : (renderC (r :: l)).length = (lineC r).length + 1 + (renderC l).length := by unfold renderC; rw [List.flatMap_cons, List.length_append, List.length_append]; rfl
    obtain ⟨h1, h2⟩ := render_ge l
    obtain ⟨g1, g2⟩ := line_ge r
    rw [e]
    refine ⟨by rw [List.length_cons]; omega, fun q hq => ?_⟩
    rcases List.mem_cons.1 hq with rfl | hq
    · exact ⟨by omega, fun x hx => by have := g2 x hx; omega⟩
    · exact ⟨by have := (h2 q hq).1; omega, fun x hx => by have := (h2 q hq).2 x hx; omega⟩
theorem rowsL_bb (l : List (List (List UInt8))) : rowsL (l.map (·.map bb)) = l := by
  unfold rowsL
  rw [List.map_map]
  conv => rhs; rw [← List.map_id l]
  refine List.map_congr_left (fun r _ => ?_)
  show (r.map bb).map (fun s : ByteArray => s.data.toList) = r
  rw [List.map_map]
  conv => rhs; rw [← List.map_id r]
  exact List.map_congr_left (fun x _ => bb_list x)
/-- Rows of a text no longer than n, rendered. -/
theorem render_f (l : List (List (List UInt8))) (h : (renderC l).length ≤ 1000) : cells_Render.f (l.map (·.map bb)) = some (bb (renderC l)) := by
  obtain ⟨h1, h2⟩ := render_ge l
  unfold cells_Render.f
  rw [if_pos, rowsL_bb]; rfl
  refine ⟨by rw [List.length_map]; omega, ?_⟩
  rw [List.all_eq_true]
  intro q hq
  obtain ⟨r, hr, rfl⟩ := List.mem_map.1 hq
  obtain ⟨g1, g2⟩ := h2 r hr
  rw [Bool.and_eq_true, List.all_eq_true]
  refine ⟨decide_eq_true (by rw [List.length_map]; omega), fun y hy => ?_⟩
  obtain ⟨x, hx, rfl⟩ := List.mem_map.1 hy
  have := g2 x hx
  exact decide_eq_true (by rw [bb_size]; omega)
theorem bb_cat (a b : List UInt8) : bb a ++ bb b = bb (a ++ b) := by
  have h : (bb a ++ bb b).data.toList = a ++ b := by rw [ByteArray.data_append, Array.toList_append, bb_list, bb_list]
  rw [← h]; exact (bb_data _).symm
theorem take_bb (s : ByteArray) (n : Nat) : s.extract 0 n = bb (s.data.toList.take n) := by
  have : (s.extract 0 n).data.toList = s.data.toList.take n := by rw [ByteArray.data_extract]; simp
  rw [← this]; exact (bb_data _).symm
theorem wr (n : Nat) (h : n < 1000000) : wrap64 ((n : Int) + 1) = ((n + 1 : Nat) : Int) := by rw [wrap_s (by omega) (by omega)]; rfl
/-- A text, a row, a table as the law cuts it. -/
def cutC (s : ByteArray) : ByteArray := s.extract 0 (mn (s.size : Int) 30).toNat
def cutR (r : List ByteArray) : List ByteArray := (r.take 8).map cutC
theorem mn_ok (s : ByteArray) : 0 ≤ mn (s.size : Int) 30 ∧ mn (s.size : Int) 30 ≤ (s.size : Int) := by unfold mn; split <;> omega
theorem cutC_len (s : ByteArray) : (cutC s).size ≤ 30 := by
  unfold cutC mn
  rw [ByteArray.size_extract]
  split <;> omega
/-- A table as the law's has at most eight rows of eight cells of thirty bytes. -/
def Small (l : List (List ByteArray)) : Prop := l.length ≤ 8 ∧ ∀ r ∈ l, r.length ≤ 8 ∧ ∀ s ∈ r, s.size ≤ 30
theorem cutR_small (r : List ByteArray) : (cutR r).length ≤ 8 ∧ ∀ s ∈ cutR r, s.size ≤ 30 := by
  refine ⟨by unfold cutR; rw [List.length_map, List.length_take]; omega, fun s hs => ?_⟩
  obtain ⟨x, _, rfl⟩ := List.mem_map.1 hs
  exact cutC_len x
def lineB (r : List ByteArray) : ByteArray := bb (lineC (r.map fun s : ByteArray => s.data.toList) ++ [10])
theorem small_row {r : List ByteArray} (h : r.length ≤ 8 ∧ ∀ s ∈ r, s.size ≤ 30) : r.length ≤ 1000 ∧ (r.all fun e => decide (e.size ≤ 1000)) = true := by
  refine ⟨by omega, ?_⟩
  rw [List.all_eq_true]
  exact fun s hs => decide_eq_true (by have := h.2 s hs; omega)
theorem row_f {r : List ByteArray} (h : r.length ≤ 8 ∧ ∀ s ∈ r, s.size ≤ 30) : cells_Row.f r = some (lineB r) := by
  unfold cells_Row.f
  rw [if_pos (small_row h)]; rfl
theorem refRow_f {r : List ByteArray} (h : r.length ≤ 8 ∧ ∀ s ∈ r, s.size ≤ 30) : graverref25_Row.f r = some (lineB r) := by
  unfold graverref25_Row.f
  rw [if_pos (small_row h)]; rfl
theorem rend_f {l : List (List ByteArray)} (h : Small l) : cells_Render.f l = some (bb (renderC (rowsL l))) := by
  unfold cells_Render.f
  rw [if_pos]; rfl
  refine ⟨by have := h.1; omega, ?_⟩
  rw [List.all_eq_true]
  intro r hr
  obtain ⟨h1, h2⟩ := small_row (h.2 r hr)
  rw [Bool.and_eq_true]
  exact ⟨decide_eq_true h1, h2⟩
theorem rend_len {l : List (List ByteArray)} (h : Small l) : (renderC (rowsL l)).length ≤ 800000 := by
  have e : ∀ l : List (List ByteArray), (∀ r ∈ l, r.length ≤ 8 ∧ ∀ s ∈ r, s.size ≤ 30) → (renderC (rowsL l)).length ≤ l.length * 800 := by
    intro l
    induction l with
    | nil => intro _; simp [renderC, rowsL]
    | cons r l ih =>
      intro h
      have i := ih (fun q hq => h q (List.mem_cons_of_mem _ hq))
      have e1 : (renderC (rowsL (r :: l))).length = (lineC (r.map fun s : ByteArray => s.data.toList)).length + 1 + (renderC (rowsL l)).length := by
        unfold renderC rowsL; rw [List.map_cons, List.flatMap_cons, List.length_append, List.length_append]; rfl
      have e2 : ∀ r : List (List UInt8), (∀ s ∈ r, s.length ≤ 30) → (lineC r).length ≤ r.length * 92 := by
        intro r
        induction r with
        | nil => intro _; simp [lineC, List.intercalate]
        | cons x r ih =>
          intro h
          have hx := h x (by simp)
          have hc := cell_len x
          have i := ih (fun s hs => h s (List.mem_cons_of_mem _ hs))
          cases r with
          | nil =>
            have e : lineC [x] = cellR x := by unfold lineC; simp [List.intercalate]
            rw [e]; simp only [List.length_cons, List.length_nil]; omega
          | cons y r =>
            have e : lineC (x :: y :: r) = cellR x ++ 32 :: lineC (y :: r) := by unfold lineC; simp [List.intercalate]
            rw [e, List.length_append, List.length_cons]
            simp only [List.length_cons] at i ⊢
            omega
      obtain ⟨h1, h2⟩ := h r (by simp)
      have e3 := e2 (r.map fun s : ByteArray => s.data.toList) (fun x hx => by
        obtain ⟨s, hs, rfl⟩ := List.mem_map.1 hx
        rw [ba_len]; exact h2 s hs)
      rw [List.length_map] at e3
      rw [e1, List.length_cons]; omega
  have := e l h.2
  have := h.1
  omega
theorem rend_snoc (l : List (List ByteArray)) (r : List ByteArray) : bb (renderC (rowsL l)) ++ lineB r = bb (renderC (rowsL (l ++ [r]))) := by
  unfold lineB
  rw [bb_cat]
  unfold renderC rowsL
  rw [List.map_append, List.flatMap_append]; simp
theorem small_snoc {l : List (List ByteArray)} {r : List ByteArray} (h : Small l) (hl : l.length < 8) (hr : r.length ≤ 8 ∧ ∀ s ∈ r, s.size ≤ 30) : Small (l ++ [r]) := by
  refine ⟨by rw [List.length_append, List.length_singleton]; omega, fun q hq => ?_⟩
  rcases List.mem_append.1 hq with hq | hq
  · exact h.2 q hq
  · obtain rfl := List.mem_singleton.1 hq; exact hr
theorem rd_in (x : List (List ByteArray)) (i : Nat) (h : i < x.length) : rd_L3 x (i : Int) = x[i] := by
  unfold rd_L3; rw [Int.toNat_natCast]; simp [List.getD, h]
theorem rdOf_in (r : List ByteArray) (j : Nat) (h : j < r.length) : rdOf ByteArray.empty r (j : Int) = r[j] := by
  unfold rdOf; rw [Int.toNat_natCast]; simp [List.getD, h]
/-- The rows are what they were. -/
theorem same_ev (l : List (List ByteArray)) (hs : Small l) : ∀ d : Nat, ∀ i : Nat, l.length - i ≤ d → i ≤ l.length → Ev (fun k => graverlaw25_CellsRows.l2 k l l (i : Int)) true
  | 0, i, hd, hi => by
    refine Ev.step (f := fun _ => some true) (fun k => ?_) (Ev.now _)
    simp only [graverlaw25_CellsRows.l2]
    rw [if_neg (by omega)]
  | d + 1, i, hd, hi => by
    by_cases h : i < l.length
    · refine Ev.step (f := fun k => graverlaw25_CellsRows.l3 k l l (i : Int) 0) (fun k => ?_) ?_
      · simp only [graverlaw25_CellsRows.l2]
        rw [if_pos (by omega), if_pos (by omega), if_pos (by omega), if_pos trivial]
      · have inner : ∀ d2 j : Nat, l[i].length - j ≤ d2 → j ≤ l[i].length → Ev (fun k => graverlaw25_CellsRows.l3 k l l (i : Int) (j : Int)) true := by
          have hr := (hs.2 _ (List.getElem_mem h)).1
          have h8 := hs.1
          intro d2
          have hend : ∀ j : Nat, ¬ j < l[i].length → Ev (fun k => graverlaw25_CellsRows.l3 k l l (i : Int) (j : Int)) true := by
            intro j hj
            refine Ev.step (f := fun k => graverlaw25_CellsRows.l2 k l l ((i + 1 : Nat) : Int)) (fun k => ?_) (same_ev l hs d (i + 1) (by omega) (by omega))
            simp only [graverlaw25_CellsRows.l3]
            rw [if_pos (by omega), if_pos (by omega), rd_in l i h, if_neg (by omega), wr i (by omega)]
          induction d2 with
          | zero => exact fun j h1 h2 => hend j (by omega)
          | succ d2 ih =>
            intro j h1 h2
            by_cases hj : j < l[i].length
            · refine Ev.step (f := fun k => graverlaw25_CellsRows.l3 k l l (i : Int) ((j + 1 : Nat) : Int)) (fun k => ?_) (ih (j + 1) (by omega) (by omega))
              simp only [graverlaw25_CellsRows.l3]
              rw [if_pos (by omega), if_pos (by omega), rd_in l i h, if_pos (by omega), if_pos (by omega), if_pos (by omega), if_pos (by omega), if_pos trivial, wr j (by omega)]
            · exact hend j hj
        exact inner _ 0 (Nat.le_refl _) (by omega)
    · refine Ev.step (f := fun _ => some true) (fun k => ?_) (Ev.now _)
      simp only [graverlaw25_CellsRows.l2]
      rw [if_neg (by omega)]
/-- Behind the rows: the table's text, and the table again. -/
theorem back_ev (x0 l : List (List ByteArray)) (i : Nat) (hs : Small l) : Ev (fun k => graverlaw25_CellsRows.j1 k x0 l (bb (renderC (rowsL l))) (i : Int) false) true := by
  obtain ⟨K1, s1⟩ := parse_f (renderC (rowsL l)) (by have := rend_len hs; omega)
  have hp : parR (renderC (rowsL l)).length (renderC (rowsL l)) [] = (l, true) := by
    unfold parR
    rw [parse_render (rowsL l) _ (render_ge _).1]
    simp only [List.nil_append]
    congr 1
    unfold rowsL
    rw [List.map_map]
    conv => rhs; rw [← List.map_id l]
    refine List.map_congr_left (fun r _ => ?_)
    show (r.map (fun s : ByteArray => s.data.toList)).map bb = r
    rw [List.map_map]
    conv => rhs; rw [← List.map_id r]
    exact List.map_congr_left (fun s _ => bb_data s)
  rw [hp] at s1
  obtain ⟨K2, s2⟩ := same_ev l hs l.length 0 (by omega) (by omega)
  refine ⟨K1 + K2 + 2, fun k hk => ?_⟩
  obtain ⟨k', rfl⟩ : ∃ k', k = k' + 1 + 1 := ⟨k - 2, by omega⟩
  have g1 := s1 (k' + 1) (by omega)
  have g2 := s2 k' (by omega)
  simp only [] at g1 g2
  simp only [graverlaw25_CellsRows.j1]
  rw [if_neg (by decide), rend_f hs, Option.bind_some, g1, Option.bind_some, if_pos rfl, if_pos rfl]
  simp only [graverlaw25_CellsRows.j3]
  rw [if_neg (by simp)]
  exact g2
/-- The rows are cut one by one. -/
theorem rows_ev (x0 : List (List ByteArray)) : ∀ d : Nat, ∀ (i : Nat) (l : List (List ByteArray)), 8 - i ≤ d → i ≤ 8 → i ≤ x0.length → l.length = i → Small l → Ev (fun k => graverlaw25_CellsRows.l0 k x0 l (bb (renderC (rowsL l))) (i : Int)) true
  | d, i, l, hd, hi, hx, hl, hs => by
    by_cases h : i < x0.length ∧ i < 8
    · obtain ⟨h1, h2⟩ := h
      match d, hd with
      | 0, hd => omega
      | d + 1, hd =>
        have hcut := cutR_small x0[i]
        have hsn := small_snoc hs (by omega) hcut
        have hnext := rows_ev x0 d (i + 1) (l ++ [cutR x0[i]]) (by omega) (by omega) (by omega) (by simp; omega) hsn
        have hlen := rend_len hsn
        have hend : Ev (fun k => ((cells_Row.f (cutR x0[i])).bind fun t136 => ((graverref25_Row.f (cutR x0[i])).bind fun t137 => (if t136.toList = t137.toList then ((graverref25_Row.f (cutR x0[i])).bind fun t138 => (if (bb (renderC (rowsL l))).size + t138.size ≤ 9223372036854775807 then (graverlaw25_CellsRows.l0 k x0 (l ++ [cutR x0[i]]) ((bb (renderC (rowsL l))) ++ t138) (wrap64 ((i : Int) + 1))) else (none))) else (some false))))) true := by
          refine Ev.congr (fun k => ?_) hnext
          rw [row_f hcut, Option.bind_some, refRow_f hcut, Option.bind_some, if_pos rfl, Option.bind_some, if_pos, rend_snoc, wr i (by omega)]
          have e : (bb (renderC (rowsL l)) ++ lineB (cutR x0[i])).size = (bb (renderC (rowsL (l ++ [cutR x0[i]])))).size := by rw [rend_snoc]
          rw [ByteArray.size_append, bb_size (renderC (rowsL (l ++ [cutR x0[i]])))] at e
          omega
        have inner : ∀ d2 j : Nat, 8 - j ≤ d2 → j ≤ 8 → j ≤ x0[i].length → Ev (fun k => graverlaw25_CellsRows.l1 k x0 l (bb (renderC (rowsL l))) (i : Int) ((x0[i].take j).map cutC) (j : Int)) true := by
          have hstop : ∀ j : Nat, j ≤ 8 → j ≤ x0[i].length → ¬ (j < x0[i].length ∧ j < 8) → Ev (fun k => graverlaw25_CellsRows.l1 k x0 l (bb (renderC (rowsL l))) (i : Int) ((x0[i].take j).map cutC) (j : Int)) true := by
            intro j h8 hj hn
            have hc : (x0[i].take j).map cutC = cutR x0[i] := by
              unfold cutR
              by_cases hz : j = 8
              · rw [hz]
              · rw [List.take_of_length_le (by omega), List.take_of_length_le (by omega)]
            rw [hc]
            refine Ev.step (fun k => ?_) hend
            simp only [graverlaw25_CellsRows.l1]
            rw [if_pos (by omega), if_pos (by omega), rd_in x0 i h1]
            by_cases hz : j < x0[i].length
            · rw [if_pos (by omega), if_neg (by omega), if_pos (by omega)]
            · rw [if_neg (by omega), if_pos (by omega)]
          intro d2
          induction d2 with
          | zero => exact fun j h1 h2 h3 => hstop j h2 h3 (by omega)
          | succ d2 ih =>
            intro j hj1 hj2 hj3
            by_cases hz : j < x0[i].length ∧ j < 8
            · have hm := mn_ok x0[i][j]
              have hll : ((x0[i].take j).map cutC).length = j := by rw [List.length_map, List.length_take]; omega
              refine Ev.step (f := fun k => graverlaw25_CellsRows.l1 k x0 l (bb (renderC (rowsL l))) (i : Int) ((x0[i].take (j + 1)).map cutC) ((j + 1 : Nat) : Int)) (fun k => ?_) (ih (j + 1) (by omega) (by omega) (by omega))
              simp only [graverlaw25_CellsRows.l1]
              rw [if_pos (by omega), if_pos (by omega), rd_in x0 i h1, if_pos (by omega), if_pos (by omega), if_pos (by omega), rdOf_in _ j hz.1, if_pos hm.1, if_pos hm.2, if_pos (by omega), wr j (by omega)]
              rw [List.take_succ_eq_append_getElem hz.1, List.map_append]; rfl
            · exact hstop j hj2 hj3 hz
        refine Ev.step (f := fun k => graverlaw25_CellsRows.j1 k x0 l (bb (renderC (rowsL l))) (i : Int) true) (fun k => ?_) (Ev.step (f := fun k => graverlaw25_CellsRows.l1 k x0 l (bb (renderC (rowsL l))) (i : Int) [] 0) (fun k => ?_) (inner 8 0 (by omega) (by omega) (by omega)))
        · simp only [graverlaw25_CellsRows.l0]
          rw [if_pos (by omega), decide_eq_true (by omega)]
        · simp only [graverlaw25_CellsRows.j1]
          rw [if_pos trivial]
    · refine Ev.step (f := fun k => graverlaw25_CellsRows.j1 k x0 l (bb (renderC (rowsL l))) (i : Int) false) (fun k => ?_) (back_ev x0 l i hs)
      simp only [graverlaw25_CellsRows.l0]
      by_cases hz : i < x0.length
      · rw [if_pos (by omega), decide_eq_false (by omega)]
      · rw [if_neg (by omega)]
theorem rowsLaw_ev (x0 : List (List ByteArray)) : Ev (fun k => graverlaw25_CellsRows.f k x0) true := by
  obtain ⟨K1, s1⟩ := speaks_ev
  obtain ⟨K2, s2⟩ := rows_ev x0 8 0 [] (by omega) (by omega) (by omega) rfl ⟨by simp, fun r hr => by cases hr⟩
  refine ⟨K1 + K2, fun k hk => ?_⟩
  have g1 := s1 k (by omega)
  have g2 := s2 k (by omega)
  simp only [] at g1 g2
  show graverlaw25_CellsRows.f k x0 = some true
  unfold graverlaw25_CellsRows.f
  rw [g1, Option.bind_some, if_pos rfl]
  exact g2
end Go.Proofs.YtipnoeffahnfaaaDoorX.Ro
namespace Go.Proofs.YtipnoeffahnfaaaDoor
open Go.RowKit Go.Proofs.YtipnoeffahnfaaaDoorX.Ro Go.Proofs.YtipnoeffahnfaaaDoorW.PrintWords
theorem rows_walk (l0 : List (List ByteArray)) (A0 : Option Addr) (c0 : Nat) (W : World) (hT : CelT W) (hc0 : l0.length ≤ c0) (hr0 : Kd.C (Kd.slice 9 Kd.string) W A0 l0.length l0) :
    Calls Tryd.prog 4 #[.slice A0 l0.length c0] W fun e w' => e = .returned (.bool true) ∧ Below W.heap.size W w' := by
  obtain ⟨k, hk⟩ := (rowsLaw_ev l0).rounds
  exact graverlaw25_CellsRows.calls k A0 c0 l0 true W hT hr0 hc0 hk
end Go.Proofs.YtipnoeffahnfaaaDoor

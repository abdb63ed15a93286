/- Plain laws of layer 25: the columns of a table, how wide they are. -/
import Derived.Test.YtipnoeffahnfaaaDoorXCoP25B
import Derived.Test.YtipnoeffahnfaaaDoorXCox2
namespace Go.Proofs.YtipnoeffahnfaaaDoorX.Co
set_option linter.unusedVariables false
set_option linter.unusedSimpArgs false
open Go.RowKit Go.Proofs.YtipnoeffahnfaaaDoor Go.Proofs.YtipnoeffahnfaaaDoorW.PrintWords Go.Proofs.YtipnoeffahnfaaaDoorW.PrintLast Go.Proofs.YtipnoeffahnfaaaDoorW.PrintMore

theorem wr (n : Nat) (h : n < 1000000) : wrap64 ((n : Int) + 1) = ((n + 1 : Nat) : Int) := by rw [wrap_s (by omega) (by omega)]; rfl
theorem rd_in (x : List (List ByteArray)) (i : Nat) (h : i < x.length) : rd_L3 x (i : Int) = x[i] := by
  unfold rd_L3; rw [Int.toNat_natCast]; simp [List.getD, h]
theorem rdOf_in (r : List ByteArray) (j : Nat) (h : j < r.length) : rdOf ByteArray.empty r (j : Int) = r[j] := by
  unfold rdOf; rw [Int.toNat_natCast]; simp [List.getD, h]
theorem cell_f (s : ByteArray) (h : s.size ≤ 1000000000) : cells_Cell.f s = some (bb (cellR s.data.toList)) := by
  unfold cells_Cell.f
  rw [if_pos h]; rfl
/-- A row's cell in a column. -/
def colC (kk : Int) (r : List ByteArray) : ByteArray := if 0 ≤ kk ∧ kk < (r.length : Int) then rdOf ByteArray.empty r kk else ⟨#[]⟩
theorem column_ev (kk : Int) (L : List (List ByteArray)) (hL : L.length ≤ 8) : Ev (fun k => cells_Column.f k kk L) (L.map (colC kk)) := by
  have main : ∀ d i : Nat, L.length - i ≤ d → i ≤ L.length → Ev (fun k => cells_Column.l0 k kk ((L.take i).map (colC kk)) L (L.length : Int) (i : Int)) (L.map (colC kk)) := by
    have hend : ∀ i : Nat, i ≤ L.length → ¬ i < L.length → Ev (fun k => cells_Column.l0 k kk ((L.take i).map (colC kk)) L (L.length : Int) (i : Int)) (L.map (colC kk)) := by
      intro i hi hn
      refine Ev.step (f := fun _ => some (L.map (colC kk))) (fun k => ?_) (Ev.now _)
      simp only [cells_Column.l0]
      rw [if_neg (by omega), List.take_of_length_le (by omega)]
    intro d
    induction d with
    | zero => exact fun i h1 h2 => hend i h2 (by omega)
    | succ d ih =>
      intro i h1 h2
      by_cases h : i < L.length
      · have hl : ((L.take i).map (colC kk)).length = i := by rw [List.length_map, List.length_take]; omega
        refine Ev.step (f := fun k => cells_Column.l0 k kk ((L.take (i + 1)).map (colC kk)) L (L.length : Int) ((i + 1 : Nat) : Int)) (fun k => ?_) (ih (i + 1) (by omega) (by omega))
        simp only [cells_Column.l0]
        rw [if_pos (by omega), if_pos (by omega), if_pos (by omega), rd_in L i h, wr i (by omega), List.take_succ_eq_append_getElem h, List.map_append]
        show _ = cells_Column.l0 k kk ((L.take i).map (colC kk) ++ [colC kk L[i]]) L (L.length : Int) ((i + 1 : Nat) : Int)
        unfold colC
        by_cases h3 : kk ≥ 0
        · by_cases h4 : kk < (L[i].length : Int)
          · rw [if_pos h3, if_pos h4, if_pos (by omega), if_pos (by rw [List.length_map, List.length_take]; omega), if_pos ⟨h3, h4⟩]
          · rw [if_pos h3, if_neg h4, if_pos (by rw [List.length_map, List.length_take]; omega), if_neg (fun h => h4 h.2)]
        · rw [if_neg h3, if_pos (by rw [List.length_map, List.length_take]; omega), if_neg (fun h => h3 h.1)]
      · exact hend i h2 h
  exact Ev.congr (fun k => rfl) (main L.length 0 (by omega) (by omega))
/-- How wide a cell is; the longest row; a column's width. -/
def clN (s : ByteArray) : Nat := (cellR s.data.toList).length
def mostN (L : List (List ByteArray)) : Nat := L.foldl (fun m r => max m r.length) 0
def widJ (L : List (List ByteArray)) (p : Nat) : Nat := L.foldl (fun n r => if h : p < r.length then max n (clN r[p]) else n) 0
def widR (L : List (List ByteArray)) : List Int := (List.range (mostN L)).map fun p => (widJ L p : Int)
theorem most_snoc (L : List (List ByteArray)) (r : List ByteArray) : mostN (L ++ [r]) = max (mostN L) r.length := by unfold mostN; rw [List.foldl_append]; rfl
theorem wid_snoc (L : List (List ByteArray)) (r : List ByteArray) (p : Nat) : widJ (L ++ [r]) p = if h : p < r.length then max (widJ L p) (clN r[p]) else widJ L p := by unfold widJ; rw [List.foldl_append]; rfl
theorem widR_len (L : List (List ByteArray)) : (widR L).length = mostN L := by unfold widR; simp
theorem widR_get (L : List (List ByteArray)) (p : Nat) (h : p < (widR L).length) : (widR L)[p] = (widJ L p : Int) := by
  have e : (widR L)[p]? = some (widJ L p : Int) := by
    have h2 : p < mostN L := by rw [← widR_len]; exact h
    unfold widR
    rw [List.getElem?_map, List.getElem?_range h2]; rfl
  rw [List.getElem?_eq_getElem h] at e
  exact Option.some.inj e
theorem wid_out (L : List (List ByteArray)) (p : Nat) (h : mostN L ≤ p) : widJ L p = 0 := by
  have e : ∀ (L : List (List ByteArray)) (m n : Nat), L.foldl (fun m r => max m r.length) m ≤ p → L.foldl (fun n r => if h : p < r.length then max n (clN r[p]) else n) n = n := by
    intro L
    induction L with
    | nil => intro m n _; rfl
    | cons r L ih =>
      intro m n h
      have g : ∀ (L : List (List ByteArray)) (m : Nat), m ≤ L.foldl (fun m r => max m r.length) m := by
        intro L; induction L with
        | nil => intro m; exact Nat.le_refl _
        | cons r L ih => intro m; exact Nat.le_trans (Nat.le_max_left m r.length) (ih _)
      rw [List.foldl_cons] at h ⊢
      have hr : ¬ p < r.length := by
        have := g L (max m r.length)
        omega
      rw [dif_neg hr]
      exact ih _ n h
  exact e L 0 0 h
theorem most_small (L : List (List ByteArray)) (M : Nat) (h : ∀ r ∈ L, r.length ≤ M) : mostN L ≤ M := by
  have e : ∀ (L : List (List ByteArray)) (m : Nat), m ≤ M → (∀ r ∈ L, r.length ≤ M) → L.foldl (fun m r => max m r.length) m ≤ M := by
    intro L
    induction L with
    | nil => intro m h _; exact h
    | cons r L ih => intro m h h2; exact ih _ (Nat.max_le.2 ⟨h, h2 r (by simp)⟩) (fun q hq => h2 q (List.mem_cons_of_mem _ hq))
  exact e L 0 (Nat.zero_le _) h
theorem mx_nat (a b : Nat) : mx (a : Int) (b : Int) = ((max a b : Nat) : Int) := by unfold mx; split <;> omega
theorem widths_ev (L : List (List ByteArray)) (hL : L.length ≤ 8) (hR : ∀ r ∈ L, r.length ≤ 8 ∧ ∀ s ∈ r, s.size ≤ 1000000000) : Ev (fun k => cells_Widths.f k L) (widR L) := by
  have main : ∀ d i : Nat, L.length - i ≤ d → i ≤ L.length → Ev (fun k => cells_Widths.l0 k (widR (L.take i)) L (L.length : Int) (i : Int)) (widR L) := by
    have hend : ∀ i : Nat, i ≤ L.length → ¬ i < L.length → Ev (fun k => cells_Widths.l0 k (widR (L.take i)) L (L.length : Int) (i : Int)) (widR L) := by
      intro i hi hn
      refine Ev.step (f := fun _ => some (widR L)) (fun k => ?_) (Ev.now _)
      simp only [cells_Widths.l0]
      rw [if_neg (by omega), List.take_of_length_le (by omega)]
    intro d
    induction d with
    | zero => exact fun i h1 h2 => hend i h2 (by omega)
    | succ d ih =>
      intro i h1 h2
      by_cases h : i < L.length
      · obtain ⟨P, hP⟩ : ∃ P, P = L.take i := ⟨_, rfl⟩
        obtain ⟨r, hr⟩ : ∃ r, r = L[i] := ⟨_, rfl⟩
        have hm := hR L[i] (List.getElem_mem h)
        rw [← hr] at hm
        have hmP : mostN P ≤ 8 := most_small P 8 (fun q hq => (hR q (List.mem_of_mem_take (hP ▸ hq))).1)
        have hnext := ih (i + 1) (by omega) (by omega)
        rw [List.take_succ_eq_append_getElem h, ← hP, ← hr] at hnext
        have inner : ∀ d2 j : Nat, r.length - j ≤ d2 → j ≤ r.length → Ev (fun k => cells_Widths.l1 k (widR (P ++ [r.take j])) L (L.length : Int) (i : Int) r (r.length : Int) (j : Int)) (widR L) := by
          have hstop : ∀ j : Nat, j ≤ r.length → ¬ j < r.length → Ev (fun k => cells_Widths.l1 k (widR (P ++ [r.take j])) L (L.length : Int) (i : Int) r (r.length : Int) (j : Int)) (widR L) := by
            intro j hj hn
            rw [List.take_of_length_le (by omega)]
            refine Ev.step (fun k => ?_) hnext
            simp only [cells_Widths.l1]
            rw [if_neg (by omega), wr i (by omega)]
          intro d2
          induction d2 with
          | zero => exact fun j g1 g2 => hstop j g2 (by omega)
          | succ d2 ih2 =>
            intro j g1 g2
            by_cases hj : j < r.length
            · have hlen : (r.take j).length = j := by rw [List.length_take]; omega
              have hlen1 : (r.take (j + 1)).length = j + 1 := by rw [List.length_take]; omega
              have hml := widR_len (P ++ [r.take j])
              rw [most_snoc, hlen] at hml
              have hml1 := widR_len (P ++ [r.take (j + 1)])
              rw [most_snoc, hlen1] at hml1
              have hcs : (bb (cellR r[j].data.toList)).size = clN r[j] := by rw [bb_size]; rfl
              have hcell := cell_f r[j] (hm.2 _ (List.getElem_mem hj))
              have hjj : widJ (P ++ [r.take j]) j = widJ P j := by rw [wid_snoc, dif_neg (by omega)]
              have hnew : ∀ p : Nat, widJ (P ++ [r.take (j + 1)]) p = if p = j then max (widJ P j) (clN r[j]) else widJ (P ++ [r.take j]) p := by
                intro p
                rw [wid_snoc, wid_snoc]
                by_cases hp : p = j
                · subst hp
                  rw [if_pos rfl, dif_pos (by omega), List.getElem_take]
                · rw [if_neg hp]
                  by_cases hpj : p < j
                  · rw [dif_pos (by omega), dif_pos (by omega), List.getElem_take, List.getElem_take]
                  · rw [dif_neg (by omega), dif_neg (by omega)]
              refine Ev.step (f := fun k => cells_Widths.l1 k (widR (P ++ [r.take (j + 1)])) L (L.length : Int) (i : Int) r (r.length : Int) ((j + 1 : Nat) : Int)) (fun k => ?_) (ih2 (j + 1) (by omega) (by omega))
              simp only [cells_Widths.l1]
              rw [if_pos (by omega), if_pos (by omega), if_pos (by omega), rdOf_in r j hj, hcell, Option.bind_some, Option.bind_some, Option.bind_some, hcs, wr j (by omega)]
              by_cases hz : j = (widR (P ++ [r.take j])).length
              · rw [if_pos (by omega), if_pos (by omega), if_pos (by rw [List.length_append, List.length_singleton]; omega)]
                congr 1
                refine List.ext_getElem (by rw [List.length_set, List.length_append, List.length_singleton]; omega) (fun p p1 p2 => ?_)
                rw [widR_get, hnew, List.getElem_set]
                by_cases hp : p = j
                · subst hp
                  have e0 : rd (widR (P ++ [r.take p]) ++ [0]) (p : Int) = ((0 : Nat) : Int) := by
                    unfold rd
                    rw [Int.toNat_natCast, List.getD_eq_getElem?_getD, List.getElem?_append_right (by omega), show p - (widR (P ++ [r.take p])).length = 0 by omega]; rfl
                  have e1 : widJ P p = 0 := wid_out P p (by omega)
                  rw [if_pos (by rw [Int.toNat_natCast]), if_pos rfl, e0, mx_nat, e1]
                · rw [if_neg (by rw [Int.toNat_natCast]; omega), if_neg hp, List.getElem_append_left (by rw [List.length_set, List.length_append, List.length_singleton] at p1; omega), widR_get]
              · rw [if_neg (by omega), if_pos (by omega)]
                congr 1
                refine List.ext_getElem (by rw [List.length_set]; omega) (fun p p1 p2 => ?_)
                rw [widR_get, hnew, List.getElem_set]
                by_cases hp : p = j
                · subst hp
                  have e0 : rd (widR (P ++ [r.take p])) (p : Int) = (widJ P p : Int) := by
                    unfold rd
                    rw [Int.toNat_natCast, List.getD_eq_getElem?_getD, List.getElem?_eq_getElem (by omega), Option.getD_some, widR_get, hjj]
                  rw [if_pos (by rw [Int.toNat_natCast]), if_pos rfl, e0, mx_nat]
                · rw [if_neg (by rw [Int.toNat_natCast]; omega), if_neg hp, widR_get]
            · exact hstop j g2 hj
        have h0 := inner r.length 0 (by omega) (by omega)
        have hz : widR (P ++ [r.take 0]) = widR P := by
          refine List.ext_getElem (by rw [widR_len, widR_len, most_snoc]; simp) (fun p p1 p2 => ?_)
          rw [widR_get, widR_get, wid_snoc, dif_neg (by simp)]
        rw [hz] at h0
        rw [← hP]
        refine Ev.step (fun k => ?_) h0
        simp only [cells_Widths.l0]
        rw [if_pos (by omega), if_pos (by omega), if_pos (by omega), rd_in L i h, ← hr]; rfl
      · exact hend i h2 h
  exact Ev.congr (fun k => rfl) (main L.length 0 (by omega) (by omega))
end Go.Proofs.YtipnoeffahnfaaaDoorX.Co

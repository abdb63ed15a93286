/- Plain law of layer 25: any text as a table is that text again; any cell is its text's. -/
import Derived.Test.YtipnoeffahnfaaaDoorXPaP25B
namespace Go.Proofs.YtipnoeffahnfaaaDoorX.Pa
set_option linter.unusedVariables false
set_option linter.unusedSimpArgs false
open Go.RowKit Go.Proofs.YtipnoeffahnfaaaDoor Go.Proofs.YtipnoeffahnfaaaDoorW.PrintWords Go.Proofs.YtipnoeffahnfaaaDoorW.PrintLast Go.Proofs.YtipnoeffahnfaaaDoorW.PrintMore

theorem flat_ge : ∀ x : List UInt8, x.length ≤ (x.flatMap encC).length
  | [] => by simp
  | c :: r => by
    have := flat_ge r
    have := List.length_pos_iff.2 (enc_ne c)
    rw [List.flatMap_cons, List.length_append, List.length_cons]; omega
theorem cell_ge (x : List UInt8) : x.length ≤ (cellR x).length := by
  unfold cellR; split
  · rename_i h; subst h; simp
  · exact flat_ge x
theorem line_ge : ∀ r : List (List UInt8), r.length ≤ (lineC r).length ∧ ∀ x ∈ r, x.length ≤ (lineC r).length
  | [] => ⟨by simp, fun x hx => by cases hx⟩
  | [x] => by
    have e : lineC [x] = cellR x := by unfold lineC; simp [List.intercalate]
    rw [e]
    have := List.length_pos_iff.2 (cell_ne x)
    refine ⟨by simp only [List.length_cons, List.length_nil]; omega, fun y hy => ?_⟩
    obtain rfl := List.mem_singleton.1 hy
    exact cell_ge y
  | x :: y :: r => by
    have e : lineC (x :: y :: r) = cellR x ++ 32 :: lineC (y :: r) := by unfold lineC; simp [List.intercalate]
    obtain ⟨h1, h2⟩ := line_ge (y :: r)
    have hx := cell_ge x
    have hl : (lineC (x :: y :: r)).length = (cellR x).length + (lineC (y :: r)).length + 1 := by rw [e, List.length_append, List.length_cons]; omega
    rw [hl]
    refine ⟨by rw [List.length_cons]; omega, fun z hz => ?_⟩
    rcases List.mem_cons.1 hz with rfl | hz
    · omega
    · have := h2 z hz; omega
theorem render_ge : ∀ l : List (List (List UInt8)), l.length ≤ (renderC l).length ∧ ∀ r ∈ l, r.length ≤ (renderC l).length ∧ ∀ x ∈ r, x.length ≤ (renderC l).length
  | [] => ⟨by simp, fun r hr => by cases hr⟩
  | r :: l => by
    have e : (renderC (r :: l)).length = (lineC r).length + 1 + (renderC l).length := by unfold renderC; rw [List.flatMap_cons, List.length_append, List.length_append]; rfl
    obtain ⟨h1, h2⟩ := render_ge l
    obtain ⟨g1, g2⟩ := line_ge r
    rw [e]
    refine ⟨by rw [List.length_cons]; omega, fun q hq => ?_⟩
    rcases List.mem_cons.1 hq with rfl | hq
    · exact ⟨by omega, fun x hx => by have := g2 x hx; omega⟩
    · exact ⟨by have := (h2 q hq).1; omega, fun x hx => by have := (h2 q hq).2 x hx; omega⟩
theorem rowsL_bb (l : List (List (List UInt8))) : rowsL (l.map (·.map bb)) = l := by
  unfold rowsL
  rw [List.map_map]
  conv => rhs; rw [← List.map_id l]
  refine List.map_congr_left (fun r _ => ?_)
  show (r.map bb).map (fun s : ByteArray => s.data.toList) = r
  rw [List.map_map]
  conv => rhs; rw [← List.map_id r]
  exact List.map_congr_left (fun x _ => bb_list x)
/-- Rows of a text no longer than n, rendered. -/
theorem render_f (l : List (List (List UInt8))) (h : (renderC l).length ≤ 1000) : cells_Render.f (l.map (·.map bb)) = some (bb (renderC l)) := by
  obtain ⟨h1, h2⟩ := render_ge l
  unfold cells_Render.f
  rw [if_pos, rowsL_bb]; rfl
  refine ⟨by rw [List.length_map]; omega, ?_⟩
  rw [List.all_eq_true]
  intro q hq
  obtain ⟨r, hr, rfl⟩ := List.mem_map.1 hq
  obtain ⟨g1, g2⟩ := h2 r hr
  rw [Bool.and_eq_true, List.all_eq_true]
  refine ⟨decide_eq_true (by rw [List.length_map]; omega), fun y hy => ?_⟩
  obtain ⟨x, hx, rfl⟩ := List.mem_map.1 hy
  have := g2 x hx
  exact decide_eq_true (by rw [bb_size]; omega)
theorem text_f (l : List UInt8) (h : l.length ≤ 1000000) : cells_Text.f (bb l) = some (bb ((textC l).getD []), (textC l).isSome) := by
  unfold cells_Text.f
  rw [if_pos (by rw [bb_size]; omega), bb_list]; rfl
theorem cell_f (l : List UInt8) (h : l.length ≤ 1000000) : cells_Cell.f (bb l) = some (bb (cellR l)) := by
  unfold cells_Cell.f
  rw [if_pos (by rw [bb_size]; omega), bb_list]; rfl
theorem take_bb (s : ByteArray) (n : Nat) : s.extract 0 n = bb (s.data.toList.take n) := by
  have : (s.extract 0 n).data.toList = s.data.toList.take n := by rw [ByteArray.data_extract]; simp
  rw [← this]; exact (bb_data _).symm
theorem parses_ev (s : ByteArray) : Ev (fun k => graverlaw25_CellsParses.f k s) true := by
  obtain ⟨K1, s1⟩ := speaks_ev
  have hm : mn (s.size : Int) 200 = ((min s.size 200 : Nat) : Int) := by unfold mn; split <;> omega
  obtain ⟨l, hl⟩ : ∃ l : List UInt8, l = s.data.toList.take (min s.size 200) := ⟨_, rfl⟩
  have hx : s.extract 0 (mn (s.size : Int) 200).toNat = bb l := by rw [hm, Int.toNat_natCast, take_bb, hl]
  have hn : l.length ≤ 200 := by rw [hl, List.length_take]; omega
  obtain ⟨K2, s2⟩ := parse_f l (by omega)
  have hcl := cell_len l
  have hc := cell_f l (by omega)
  have ht := text_f l (by omega)
  have htc := text_f (cellR l) (by omega)
  rw [text_cell] at htc
  simp only [Option.isSome_some, Option.getD_some] at htc
  refine ⟨K1 + K2, fun k hk => ?_⟩
  have g1 := s1 k (by omega)
  have g2 := s2 k (by omega)
  simp only [] at g1 g2
  show graverlaw25_CellsParses.f k s = some true
  unfold graverlaw25_CellsParses.f
  rw [g1, Option.bind_some, if_pos rfl, hm, if_pos (by omega), if_pos (by omega), ← hm, hx, g2, Option.bind_some, ht, Option.bind_some, hc, Option.bind_some, htc, Option.bind_some]
  simp only [if_true, bb_toList, if_pos]
  have hlast : (if (parR l.length l []).2 = true then (cells_Render.f (parR l.length l []).1).bind fun t135 => if t135.toList = l then some true else some false else some ((((parR l.length l []).1).length : Int) == 0)) = some true := by
    unfold parR
    cases hp : parseC l.length l with
    | none => simp
    | some rows =>
      have hr := render_parse l.length l rows (Nat.le_refl _) hp
      simp only [if_true, List.nil_append]
      rw [render_f rows (by rw [hr]; omega), Option.bind_some, hr, bb_toList, if_pos rfl]
  simp only [hlast]
  cases hT : textC l with
  | none => simp
  | some t =>
    have hs := text_sound hT
    have hge := cell_ge t
    rw [hs] at hge
    simp only [Option.isSome_some, if_true, Option.getD_some]
    rw [cell_f t (by omega), Option.bind_some, hs, bb_toList, if_pos rfl]
end Go.Proofs.YtipnoeffahnfaaaDoorX.Pa
namespace Go.Proofs.YtipnoeffahnfaaaDoor
open Go.RowKit Go.Proofs.YtipnoeffahnfaaaDoorX.Pa Go.Proofs.YtipnoeffahnfaaaDoorW.PrintWords
theorem parses_walk (s : ByteArray) (W : World) (hT : CelT W) :
    Calls Tryd.prog 5 #[.string s] W fun e w' => e = .returned (.bool true) ∧ Below W.heap.size W w' := by
  obtain ⟨k, hk⟩ := (parses_ev s).rounds
  exact graverlaw25_CellsParses.calls k s true W hT hk
end Go.Proofs.YtipnoeffahnfaaaDoor

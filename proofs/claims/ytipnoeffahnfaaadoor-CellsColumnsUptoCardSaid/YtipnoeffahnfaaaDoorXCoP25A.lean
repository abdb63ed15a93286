/- Plain laws of layer 25: Parse by its lines; the laws' first lines. -/
import Derived.Test.YtipnoeffahnfaaaDoorXCox1
namespace Go.Proofs.YtipnoeffahnfaaaDoorX.Co
set_option linter.unusedVariables false
set_option linter.unusedSimpArgs false
open Go.RowKit Go.Proofs.YtipnoeffahnfaaaDoor Go.Proofs.YtipnoeffahnfaaaDoorW.PrintWords Go.Proofs.YtipnoeffahnfaaaDoorW.PrintLast Go.Proofs.YtipnoeffahnfaaaDoorW.PrintMore

theorem ba_len (t : ByteArray) : t.data.toList.length = t.size := by rw [Array.length_toList]; rfl
theorem bb_list (l : List UInt8) : (bb l).data.toList = l := by simp [bb]
theorem bb_toList (l : List UInt8) : (bb l).toList = l := by rw [Lib.toList_data]; exact bb_list l
theorem bb_size (l : List UInt8) : (bb l).size = l.length := by rw [← ba_len, bb_list]
theorem cut10 (l : List UInt8) : (Lib.cut l [10] = (l, [], false) ∧ l.findIdx? (· == 10) = none) ∨ (∃ p q, l = p ++ 10 :: q ∧ l.findIdx? (· == 10) = some p.length ∧ Lib.cut l [10] = (p, q, true)) := by
  rcases ix_spl 10 l with ⟨h1, h2⟩ | ⟨p, q, h1, h2, h3⟩
  · refine .inl ⟨?_, ?_⟩
    · unfold Lib.cut; rw [h1, if_neg (by decide)]
    · rw [List.findIdx?_eq_none_iff]
      intro x hx
      simp only [beq_eq_false_iff_ne]
      rintro rfl
      exact h2 hx
  · refine .inr ⟨p, q, h1, by rw [h1]; exact find_end p q h2, ?_⟩
    unfold Lib.cut
    rw [h3, if_pos (by omega), Int.toNat_natCast, h1, List.take_left]
    rw [show p.length + ([10] : List UInt8).length = p.length + 1 from rfl, ← List.drop_drop, List.drop_left]
    rfl
/-- What Parse tells. -/
def parR (n : Nat) (s : List UInt8) (acc : List (List ByteArray)) : List (List ByteArray) × Bool := match parseC n s with
  | some rows => (acc ++ rows.map (·.map bb), true)
  | none => ([], false)
theorem parse_ev : ∀ (n : Nat) (s : List UInt8) (acc : List (List ByteArray)), s.length ≤ n → acc.length + n ≤ 1000000 → Ev (fun k => cells_Parse.l0 k (bb s) acc) (parR n s acc)
  | 0, s, acc, hn, ha => by
    obtain rfl : s = [] := List.eq_nil_of_length_eq_zero (by omega)
    refine Ev.step (f := fun _ => some (acc, true)) (fun k => ?_) ?_
    · simp only [cells_Parse.l0]
      rw [bb_toList, if_pos rfl]
    · have : parR 0 [] acc = (acc, true) := by unfold parR parseC; simp
      rw [this]; exact Ev.now _
  | n + 1, s, acc, hn, ha => by
    by_cases h0 : s = []
    · subst h0
      refine Ev.step (f := fun _ => some (acc, true)) (fun k => ?_) ?_
      · simp only [cells_Parse.l0]
        rw [bb_toList, if_pos rfl]
      · have : parR (n + 1) [] acc = (acc, true) := by unfold parR parseC; simp
        rw [this]; exact Ev.now _
    · have hcutf : strings_Cut.f (bb s) ⟨#[10]⟩ = some (bb (Lib.cut s [10]).1, bb (Lib.cut s [10]).2.1, (Lib.cut s [10]).2.2) := by
        unfold strings_Cut.f
        rw [if_pos (by rw [bb_size]; omega), bb_list]; rfl
      have hrowf : ∀ l : List UInt8, l.length ≤ n + 1 → cells_row.f (bb l) = some (((rowC l).getD []).map bb, (rowC l).isSome) := fun l hl => by
        unfold cells_row.f
        rw [if_pos (by rw [bb_size]; omega), bb_list]
      rcases cut10 s with ⟨hc, hf⟩ | ⟨p, q, hs, hf, hc⟩
      · have hp : parR (n + 1) s acc = ([], false) := by
          unfold parR parseC
          rw [if_neg h0, hf]
        rw [hp]
        refine Ev.step (f := fun _ => some (([] : List (List ByteArray)), false)) (fun k => ?_) (Ev.now _)
        simp only [cells_Parse.l0]
        rw [bb_toList, if_neg h0, hcutf, hc, Option.bind_some, hrowf s hn, Option.bind_some]
        simp
      · have hpl : p.length + q.length + 1 = s.length := by rw [hs]; simp; omega
        cases hr : rowC p with
        | none =>
          have hp : parR (n + 1) s acc = ([], false) := by
            unfold parR parseC
            rw [if_neg h0, hf]
            simp only []
            rw [hs, List.take_left, hr]
          rw [hp]
          refine Ev.step (f := fun _ => some (([] : List (List ByteArray)), false)) (fun k => ?_) (Ev.now _)
          simp only [cells_Parse.l0]
          rw [bb_toList, if_neg h0, hcutf, hc, Option.bind_some, hrowf p (by omega), Option.bind_some, hr]
          simp
        | some r =>
          have hp : parR (n + 1) s acc = parR n q (acc ++ [r.map bb]) := by
            unfold parR
            conv => lhs; unfold parseC
            rw [if_neg h0, hf]
            simp only []
            rw [hs, List.take_left, hr, ← List.drop_drop, List.drop_left]
            simp only [List.drop_succ_cons, List.drop_zero]
            cases parseC n q <;> simp
          rw [hp]
          refine Ev.step (f := fun k => cells_Parse.l0 k (bb q) (acc ++ [r.map bb])) (fun k => ?_) (parse_ev n q _ (by omega) (by simp; omega))
          simp only [cells_Parse.l0]
          rw [bb_toList, if_neg h0, hcutf, hc, Option.bind_some, hrowf p (by omega), Option.bind_some, hr]
          simp only [Option.isSome_some, if_true, Option.getD_some]
          rw [if_pos (by omega)]
theorem parse_f (s : List UInt8) (hs : s.length ≤ 900000) : Ev (fun k => cells_Parse.f k (bb s)) (parR s.length s []) :=
  Ev.congr (fun k => rfl) (parse_ev s.length s [] (Nat.le_refl _) (by simp; omega))
end Go.Proofs.YtipnoeffahnfaaaDoorX.Co

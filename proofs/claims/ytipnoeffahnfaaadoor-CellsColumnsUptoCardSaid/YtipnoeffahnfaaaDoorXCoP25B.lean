/- Plain laws of layer 25: the laws' first lines come to true. -/
import Derived.Test.YtipnoeffahnfaaaDoorXCoP25A
namespace Go.Proofs.YtipnoeffahnfaaaDoorX.Co
set_option linter.unusedVariables false
set_option linter.unusedSimpArgs false
open Go.RowKit Go.Proofs.YtipnoeffahnfaaaDoor Go.Proofs.YtipnoeffahnfaaaDoorW.PrintWords Go.Proofs.YtipnoeffahnfaaaDoorW.PrintLast Go.Proofs.YtipnoeffahnfaaaDoorW.PrintMore

theorem speaks_ev : Ev (fun k => graverlaw25_speaks.f k) true := by
  obtain ⟨K, h⟩ := parse_f [97, 37, 50, 48, 98, 32, 37, 10] (by decide)
  have hp : parR 8 [97, 37, 50, 48, 98, 32, 37, 10] [] = ([[⟨#[97, 32, 98]⟩, ⟨#[]⟩]], true) := by
    unfold parR
    rw [show parseC 8 [97, 37, 50, 48, 98, 32, 37, 10] = some [[[97, 32, 98], []]] from by decide +kernel]
    rfl
  refine ⟨K, fun k hk => ?_⟩
  have g := h k hk
  simp only [List.length_cons, List.length_nil, Nat.reduceAdd] at g
  rw [hp] at g
  have g' : cells_Parse.f k ⟨#[97, 37, 50, 48, 98, 32, 37, 10]⟩ = some ([[⟨#[97, 32, 98]⟩, ⟨#[]⟩]], true) := g
  have hr : cells_Row.f [⟨#[97, 32, 98]⟩, ⟨#[]⟩] = some ⟨#[97, 37, 50, 48, 98, 32, 37, 10]⟩ := by
    unfold cells_Row.f
    rw [if_pos (by decide)]
    rw [show (lineC ([(⟨#[97, 32, 98]⟩ : ByteArray), ⟨#[]⟩].map fun s : ByteArray => s.data.toList) ++ [10]) = [97, 37, 50, 48, 98, 32, 37, 10] from by decide +kernel]
  have hx : cells_Hex.f 255 4 = some ⟨#[48, 48, 102, 102]⟩ := by
    unfold cells_Hex.f
    rw [if_pos (by omega)]
    have hb : bdig 16 255 = [102, 102] := by
      rw [bdig_big (by decide) (by decide), bdig_small (by decide)]
      decide +kernel
    show some (⟨(hexR 255 4).toArray⟩ : ByteArray) = _
    unfold hexR
    rw [hb]
    decide +kernel
  have hd : cells_Dec.f 10 = some ⟨#[49, 48]⟩ := by
    unfold cells_Dec.f
    rw [if_pos (by omega)]
    show some (⟨(Lib.decDigits 10).toArray⟩ : ByteArray) = _
    rw [Lib.decDigits_two (by decide) (by decide)]
    decide +kernel
  show graverlaw25_speaks.f k = some true
  unfold graverlaw25_speaks.f
  rw [g', Option.bind_some, hr, Option.bind_some, hx, hd]
  decide +kernel
end Go.Proofs.YtipnoeffahnfaaaDoorX.Co

/- Of no program: an element [2]uint64 of a slice among the arguments. -/
import Derived.Test.YtcfbdnlbgcoicaaDoorArgs
import Derived.WideKeyPair
namespace Go.Proofs.YtcfbdnlbgcoicaaDoor
set_option linter.unusedVariables false
set_option linter.unusedSimpArgs false
open Go.RowKit

theorem pair_el {H : Type} {enc : TypeId × Value → H} {P : Program} {w : World} {sp : Nat → Bool} {held : Bool} {k e : TypeId} {q : IntKind} (A : Go.WideMaps.ArrKey P k e 2) (he : P.underlying e = some (.int q)) {n : Nat} {cs : List Value} {x : DataW H × List MemPlace}
    (h : DataW.trod enc P w 0 sp held n k cs = some x) : ∃ a b : Int, cs = [.int q a, .int q b] ∧ (Lit.int q a).wf = true ∧ (Lit.int q b).wf = true := by
  cases n with
  | zero => simp [DataW.trod] at h
  | succ n =>
    rw [DataW.trod_step] at h
    unfold DataW.trodStep at h
    simp only [A.hu] at h
    split at h
    · rename_i hl
      rw [A.size] at hl
      match cs, hl with
      | [c0, c1], _ =>
        simp only [Option.map_eq_some_iff] at h
        obtain ⟨xs, hx, e1⟩ := h
        rw [show List.range 2 = [0, 1] from rfl, List.mapM_cons, List.mapM_cons, List.mapM_nil] at hx
        simp only [bind, Option.bind_eq_some_iff, pure, Option.some.injEq, A.one] at hx
        obtain ⟨y0, h0, _, ⟨y1, h1, _, rfl, rfl⟩, rfl⟩ := hx
        obtain ⟨a, ea, rfl, wa⟩ := DataW.trod_int he h0
        obtain ⟨b, eb, rfl, wb⟩ := DataW.trod_int he h1
        simp at ea eb
        subst ea; subst eb
        exact ⟨a, b, rfl, wa, wb⟩
    · cases h
end Go.Proofs.YtcfbdnlbgcoicaaDoor

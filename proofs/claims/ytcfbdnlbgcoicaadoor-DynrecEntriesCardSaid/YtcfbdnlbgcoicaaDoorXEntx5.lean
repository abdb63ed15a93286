-- PRINTED by print.py (a twelfth state) out of the translation. Not trusted: Lean checks it.
import Derived.Test.YtcfbdnlbgcoicaaDoorXEntx0
namespace Go.Proofs.YtcfbdnlbgcoicaaDoorX.Ent
open Go.RowKit Go.Proofs.YtcfbdnlbgcoicaaDoorW.PrintWords Go.Proofs.YtcfbdnlbgcoicaaDoorW.PrintLast Go.Proofs.YtcfbdnlbgcoicaaDoorW.PrintMore
attribute [local go_sem] max2_int min2_int max_two min_two max_three min_three max_four min_four   -- for this text's walks alone
set_option linter.unusedVariables false
set_option linter.unusedSimpArgs false

section
open Go.Proofs.YtcfbdnlbgcoicaaDoor
/-! ### dynrec_Dynamic: function 14 (given) -/
def dynrec_Dynamic.f (a0_0 : Bool) (a0_1 : Bool) (a1 : ByteArray) : Option ((List (S51)) × Int) := if a1.size ≤ 100000 then (match dynR a0_0 (wordN a0_1) (a1.data.toList.length + 1) a1.data.toList with | some es => some (es.map fun e => (⟨(e.1 : Int), (e.2 : Int)⟩ : S51), 0) | none => some ([], 24)) else none
theorem dynrec_Dynamic.calls (a0_0 : Bool) (a0_1 : Bool) (a1 : ByteArray) (r1 : List (S51)) (r2 : Int) (w : World) (h : dynrec_Dynamic.f a0_0 a0_1 a1 = some (r1, r2)) :
    Calls Tryd.prog 14 #[.agg #[.bool a0_0, .bool a0_1], .string a1] w fun e w' => ∃ v0_ : Value, e = .returned (.tuple #[v0_, .int .i64 r2]) ∧ Kd.R k51 51 w' w.heap.size (fun _ => True) v0_ r1 ∧ Below w.heap.size w w' := by
  unfold dynrec_Dynamic.f at h
  split at h
  · rename_i hc
    obtain ⟨l, rfl⟩ : ∃ l : List UInt8, a1 = ⟨l.toArray⟩ := ⟨a1.data.toList, by cases a1; simp⟩
    have hl : l.length ≤ 100000 := by rw [ba_size] at hc; exact hc
    refine (dynamic_own a0_0 a0_1 l hl w).mono ?_
    intro e w' hp
    simp only [ba_data] at h
    cases hd : dynR a0_0 (wordN a0_1) (l.length + 1) l with
    | none =>
      rw [hd] at h hp
      injection h with h; injection h with h1 h2
      subst h1; subst h2
      exact ⟨_, hp.1, Kd.R_nil _ _ _ _ _, hp.2⟩
    | some es =>
      rw [hd] at h hp
      injection h with h; injection h with h1 h2
      subst h1; subst h2
      obtain ⟨a, c, he, ho, hb⟩ := hp
      refine ⟨_, he, R_of_owns (fun e : S51 => [.int .u64 e.f0, .int .u64 e.f1]) (fun _ => rfl) (fun w b ok x => k51_mkM w b ok x) ?_ (fun _ _ => trivial), hb⟩
      rw [List.length_map, List.flatMap_map]
      exact ho
  · cases h
end

end Go.Proofs.YtcfbdnlbgcoicaaDoorX.Ent

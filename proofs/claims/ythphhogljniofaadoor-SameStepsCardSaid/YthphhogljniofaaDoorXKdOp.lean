/- What the data of the law's parameters say, and that they open. -/
import Derived.Test.YthphhogljniofaaDoorXKdM17V
import Derived.Test.YthphhogljniofaaDoorOpen
namespace Go.Proofs.YthphhogljniofaaDoorX.Kd
set_option linter.unusedVariables false
set_option maxRecDepth 100000
open Go.RowKit Go.Proofs.YthphhogljniofaaDoor Go.Proofs.YthphhogljniofaaDoorW.PrintWords
def Q74 (z : S74) : Prop := (z.f0.size ≤ maxLen) ∧ ((Lit.int .i64 z.f1).wf = true) ∧ ((Lit.int .i64 z.f2).wf = true) ∧ ((Lit.int .i64 z.f3).wf = true) ∧ (z.f4.size ≤ maxLen)
theorem opT74 {H : Type} {enc : TypeId × Value → H} {w : World} {sp : Nat → Bool} {held : Bool} : Opens enc Tryd.prog w sp held 74 k74 Q74 :=
  Opens.struct (fun z => (⟨z.1, z.2.1, z.2.2.1, z.2.2.2.1, z.2.2.2.2⟩ : S74)) (fun _ => rfl) Tryd.underlying74 (by kernel_rfl) rfl (OpensP.cons (by kernel_rfl) (Opens.string Tryd.underlying9) (OpensP.cons (by kernel_rfl) (Opens.int Tryd.underlying3) (OpensP.cons (by kernel_rfl) (Opens.int Tryd.underlying3) (OpensP.cons (by kernel_rfl) (Opens.int Tryd.underlying3) (OpensP.one (by kernel_rfl) (Opens.string Tryd.underlying9))))))
def Q52 (z : S52) : Prop := (z.f0.size ≤ maxLen) ∧ ((Lit.int .i64 z.f1).wf = true) ∧ ((Lit.int .i64 z.f2).wf = true) ∧ ((Lit.int .i64 z.f3).wf = true)
theorem opT52 {H : Type} {enc : TypeId × Value → H} {w : World} {sp : Nat → Bool} {held : Bool} : Opens enc Tryd.prog w sp held 52 k52 Q52 :=
  Opens.struct (fun z => (⟨z.1, z.2.1, z.2.2.1, z.2.2.2⟩ : S52)) (fun _ => rfl) Tryd.underlying52 (by kernel_rfl) rfl (OpensP.cons (by kernel_rfl) (Opens.string Tryd.underlying9) (OpensP.cons (by kernel_rfl) (Opens.int Tryd.underlying3) (OpensP.cons (by kernel_rfl) (Opens.int Tryd.underlying3) (OpensP.one (by kernel_rfl) (Opens.int Tryd.underlying3)))))
def Q87 (z : S87) : Prop := ((Lit.int .i64 z.f0).wf = true) ∧ ((Lit.int .i64 z.f1).wf = true) ∧ ((Lit.int .i64 z.f2).wf = true)
theorem opT87 {H : Type} {enc : TypeId × Value → H} {w : World} {sp : Nat → Bool} {held : Bool} : Opens enc Tryd.prog w sp held 87 k87 Q87 :=
  Opens.array (fun z => (⟨z.1, z.2.1, z.2.2⟩ : S87)) (fun _ => rfl) Tryd.underlying87 (by kernel_rfl) rfl (OpensP.cons (by kernel_rfl) (Opens.int Tryd.underlying3) (OpensP.cons (by kernel_rfl) (Opens.int Tryd.underlying3) (OpensP.one (by kernel_rfl) (Opens.int Tryd.underlying3))))
def Q27 (z : S27) : Prop := ((Lit.int .i64 z.f0).wf = true) ∧ ((∀ z_ ∈ z.f1, Q74 z_) ∧ z.f1.length ≤ maxLen) ∧ ((∀ z_ ∈ z.f2, Q52 z_) ∧ z.f2.length ≤ maxLen) ∧ ((∀ z_ ∈ z.f3, Q87 z_) ∧ z.f3.length ≤ maxLen) ∧ ((∀ z_ ∈ z.f4, z_.size ≤ maxLen) ∧ z.f4.length ≤ maxLen)
theorem opT27 {H : Type} {enc : TypeId × Value → H} {w : World} {sp : Nat → Bool} {held : Bool} : Opens enc Tryd.prog w sp held 27 k27 Q27 :=
  Opens.struct (fun z => (⟨z.1, z.2.1, z.2.2.1, z.2.2.2.1, z.2.2.2.2⟩ : S27)) (fun _ => rfl) Tryd.underlying27 (by kernel_rfl) rfl (OpensP.cons (by kernel_rfl) (Opens.int Tryd.underlying3) (OpensP.cons (by kernel_rfl) (Opens.slice Tryd.underlying22 (by kernel_rfl) opT74) (OpensP.cons (by kernel_rfl) (Opens.slice Tryd.underlying23 (by kernel_rfl) opT52) (OpensP.cons (by kernel_rfl) (Opens.slice Tryd.underlying24 (by kernel_rfl) opT87) (OpensP.one (by kernel_rfl) (Opens.slice Tryd.underlying25 (by kernel_rfl) (Opens.string Tryd.underlying9)))))))
theorem opA27 {H : Type} {enc : TypeId × Value → H} {w : World} {sp : Nat → Bool} {held : Bool} : Opens enc Tryd.prog w sp held 27 k27 (fun l => Q27 l) := opT27
end Go.Proofs.YthphhogljniofaaDoorX.Kd

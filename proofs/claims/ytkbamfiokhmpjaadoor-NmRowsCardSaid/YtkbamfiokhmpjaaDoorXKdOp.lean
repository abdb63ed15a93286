/- What the data of the law's parameters say, and that they open. -/
import Derived.Test.YtkbamfiokhmpjaaDoorXKdM27X
import Derived.Test.YtkbamfiokhmpjaaDoorOpen
namespace Go.Proofs.YtkbamfiokhmpjaaDoorX.Kd
set_option linter.unusedVariables false
set_option maxRecDepth 100000
open Go.RowKit Go.Proofs.YtkbamfiokhmpjaaDoor Go.Proofs.YtkbamfiokhmpjaaDoorW.PrintWords
def Q70 (z : S70) : Prop := (z.f0.size ≤ maxLen) ∧ ((Lit.int .i64 z.f1).wf = true) ∧ ((Lit.int .i64 z.f2).wf = true) ∧ ((Lit.int .i64 z.f3).wf = true) ∧ (z.f4.size ≤ maxLen)
theorem opT70 {H : Type} {enc : TypeId × Value → H} {w : World} {sp : Nat → Bool} {held : Bool} : Opens enc Tryd.prog w sp held 70 k70 Q70 :=
  Opens.struct (fun z => (⟨z.1, z.2.1, z.2.2.1, z.2.2.2.1, z.2.2.2.2⟩ : S70)) (fun _ => rfl) Tryd.underlying70 (by kernel_rfl) rfl (OpensP.cons (by kernel_rfl) (Opens.string Tryd.underlying9) (OpensP.cons (by kernel_rfl) (Opens.int Tryd.underlying3) (OpensP.cons (by kernel_rfl) (Opens.int Tryd.underlying3) (OpensP.cons (by kernel_rfl) (Opens.int Tryd.underlying3) (OpensP.one (by kernel_rfl) (Opens.string Tryd.underlying9))))))
def Q72 (z : S72) : Prop := (z.f0.size ≤ maxLen) ∧ ((Lit.int .i64 z.f1).wf = true) ∧ ((Lit.int .i64 z.f2).wf = true) ∧ ((Lit.int .i64 z.f3).wf = true)
theorem opT72 {H : Type} {enc : TypeId × Value → H} {w : World} {sp : Nat → Bool} {held : Bool} : Opens enc Tryd.prog w sp held 72 k72 Q72 :=
  Opens.struct (fun z => (⟨z.1, z.2.1, z.2.2.1, z.2.2.2⟩ : S72)) (fun _ => rfl) Tryd.underlying72 (by kernel_rfl) rfl (OpensP.cons (by kernel_rfl) (Opens.string Tryd.underlying9) (OpensP.cons (by kernel_rfl) (Opens.int Tryd.underlying3) (OpensP.cons (by kernel_rfl) (Opens.int Tryd.underlying3) (OpensP.one (by kernel_rfl) (Opens.int Tryd.underlying3)))))
def Q78 (z : S78) : Prop := ((Lit.int .i64 z.f0).wf = true) ∧ ((Lit.int .i64 z.f1).wf = true) ∧ ((Lit.int .i64 z.f2).wf = true)
theorem opT78 {H : Type} {enc : TypeId × Value → H} {w : World} {sp : Nat → Bool} {held : Bool} : Opens enc Tryd.prog w sp held 78 k78 Q78 :=
  Opens.array (fun z => (⟨z.1, z.2.1, z.2.2⟩ : S78)) (fun _ => rfl) Tryd.underlying78 (by kernel_rfl) rfl (OpensP.cons (by kernel_rfl) (Opens.int Tryd.underlying3) (OpensP.cons (by kernel_rfl) (Opens.int Tryd.underlying3) (OpensP.one (by kernel_rfl) (Opens.int Tryd.underlying3))))
def Q27 (z : S27) : Prop := ((Lit.int .i64 z.f0).wf = true) ∧ ((∀ z_ ∈ z.f1, Q70 z_) ∧ z.f1.length ≤ maxLen) ∧ ((∀ z_ ∈ z.f2, Q72 z_) ∧ z.f2.length ≤ maxLen) ∧ ((∀ z_ ∈ z.f3, Q78 z_) ∧ z.f3.length ≤ maxLen) ∧ ((∀ z_ ∈ z.f4, z_.size ≤ maxLen) ∧ z.f4.length ≤ maxLen)
theorem opT27 {H : Type} {enc : TypeId × Value → H} {w : World} {sp : Nat → Bool} {held : Bool} : Opens enc Tryd.prog w sp held 27 k27 Q27 :=
  Opens.struct (fun z => (⟨z.1, z.2.1, z.2.2.1, z.2.2.2.1, z.2.2.2.2⟩ : S27)) (fun _ => rfl) Tryd.underlying27 (by kernel_rfl) rfl (OpensP.cons (by kernel_rfl) (Opens.int Tryd.underlying3) (OpensP.cons (by kernel_rfl) (Opens.slice Tryd.underlying22 (by kernel_rfl) opT70) (OpensP.cons (by kernel_rfl) (Opens.slice Tryd.underlying23 (by kernel_rfl) opT72) (OpensP.cons (by kernel_rfl) (Opens.slice Tryd.underlying24 (by kernel_rfl) opT78) (OpensP.one (by kernel_rfl) (Opens.slice Tryd.underlying25 (by kernel_rfl) (Opens.string Tryd.underlying9)))))))
theorem opA27 {H : Type} {enc : TypeId × Value → H} {w : World} {sp : Nat → Bool} {held : Bool} : Opens enc Tryd.prog w sp held 27 k27 (fun l => Q27 l) := opT27
end Go.Proofs.YtkbamfiokhmpjaaDoorX.Kd

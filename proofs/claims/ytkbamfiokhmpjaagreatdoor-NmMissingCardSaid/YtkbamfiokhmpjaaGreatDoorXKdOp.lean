/- What the data of the law's parameters say, and that they open. -/
import Derived.Test.YtkbamfiokhmpjaaGreatDoorXKdMPL
import Derived.Test.YtkbamfiokhmpjaaGreatDoorOpen
namespace Go.Proofs.YtkbamfiokhmpjaaGreatDoorX.Kd
set_option linter.unusedVariables false
set_option maxRecDepth 100000
open Go.RowKit Go.Proofs.YtkbamfiokhmpjaaGreatDoor Go.Proofs.YtkbamfiokhmpjaaGreatDoorW.PrintWords
def Q60 (z : S60) : Prop := (z.f0.size ≤ maxLen) ∧ ((Lit.int .i64 z.f1).wf = true) ∧ ((Lit.int .i64 z.f2).wf = true) ∧ ((Lit.int .i64 z.f3).wf = true) ∧ (z.f4.size ≤ maxLen)
theorem opT60 {H : Type} {enc : TypeId × Value → H} {w : World} {sp : Nat → Bool} {held : Bool} : Opens enc Tryz.prog w sp held 60 k60 Q60 :=
  Opens.struct (fun z => (⟨z.1, z.2.1, z.2.2.1, z.2.2.2.1, z.2.2.2.2⟩ : S60)) (fun _ => rfl) Tryz.underlying60 (by kernel_rfl) rfl (OpensP.cons (by kernel_rfl) (Opens.string Tryz.underlying9) (OpensP.cons (by kernel_rfl) (Opens.int Tryz.underlying3) (OpensP.cons (by kernel_rfl) (Opens.int Tryz.underlying3) (OpensP.cons (by kernel_rfl) (Opens.int Tryz.underlying3) (OpensP.one (by kernel_rfl) (Opens.string Tryz.underlying9))))))
def Q62 (z : S62) : Prop := (z.f0.size ≤ maxLen) ∧ ((Lit.int .i64 z.f1).wf = true) ∧ ((Lit.int .i64 z.f2).wf = true) ∧ ((Lit.int .i64 z.f3).wf = true)
theorem opT62 {H : Type} {enc : TypeId × Value → H} {w : World} {sp : Nat → Bool} {held : Bool} : Opens enc Tryz.prog w sp held 62 k62 Q62 :=
  Opens.struct (fun z => (⟨z.1, z.2.1, z.2.2.1, z.2.2.2⟩ : S62)) (fun _ => rfl) Tryz.underlying62 (by kernel_rfl) rfl (OpensP.cons (by kernel_rfl) (Opens.string Tryz.underlying9) (OpensP.cons (by kernel_rfl) (Opens.int Tryz.underlying3) (OpensP.cons (by kernel_rfl) (Opens.int Tryz.underlying3) (OpensP.one (by kernel_rfl) (Opens.int Tryz.underlying3)))))
def Q72 (z : S72) : Prop := ((Lit.int .i64 z.f0).wf = true) ∧ ((Lit.int .i64 z.f1).wf = true) ∧ ((Lit.int .i64 z.f2).wf = true)
theorem opT72 {H : Type} {enc : TypeId × Value → H} {w : World} {sp : Nat → Bool} {held : Bool} : Opens enc Tryz.prog w sp held 72 k72 Q72 :=
  Opens.array (fun z => (⟨z.1, z.2.1, z.2.2⟩ : S72)) (fun _ => rfl) Tryz.underlying72 (by kernel_rfl) rfl (OpensP.cons (by kernel_rfl) (Opens.int Tryz.underlying3) (OpensP.cons (by kernel_rfl) (Opens.int Tryz.underlying3) (OpensP.one (by kernel_rfl) (Opens.int Tryz.underlying3))))
def Q38 (z : S38) : Prop := ((Lit.int .i64 z.f0).wf = true) ∧ ((∀ z_ ∈ z.f1, Q60 z_) ∧ z.f1.length ≤ maxLen) ∧ ((∀ z_ ∈ z.f2, Q62 z_) ∧ z.f2.length ≤ maxLen) ∧ ((∀ z_ ∈ z.f3, Q72 z_) ∧ z.f3.length ≤ maxLen) ∧ ((∀ z_ ∈ z.f4, z_.size ≤ maxLen) ∧ z.f4.length ≤ maxLen)
theorem opT38 {H : Type} {enc : TypeId × Value → H} {w : World} {sp : Nat → Bool} {held : Bool} : Opens enc Tryz.prog w sp held 38 k38 Q38 :=
  Opens.struct (fun z => (⟨z.1, z.2.1, z.2.2.1, z.2.2.2.1, z.2.2.2.2⟩ : S38)) (fun _ => rfl) Tryz.underlying38 (by kernel_rfl) rfl (OpensP.cons (by kernel_rfl) (Opens.int Tryz.underlying3) (OpensP.cons (by kernel_rfl) (Opens.slice Tryz.underlying33 (by kernel_rfl) opT60) (OpensP.cons (by kernel_rfl) (Opens.slice Tryz.underlying34 (by kernel_rfl) opT62) (OpensP.cons (by kernel_rfl) (Opens.slice Tryz.underlying35 (by kernel_rfl) opT72) (OpensP.one (by kernel_rfl) (Opens.slice Tryz.underlying36 (by kernel_rfl) (Opens.string Tryz.underlying9)))))))
theorem opA22 {H : Type} {enc : TypeId × Value → H} {w : World} {sp : Nat → Bool} {held : Bool} : Opens enc Tryz.prog w sp held 22 (Kd.slice 38 k38) (fun l => (∀ z ∈ l, Q38 z) ∧ l.length ≤ maxLen) := (Opens.slice Tryz.underlying22 (by kernel_rfl) opT38)
end Go.Proofs.YtkbamfiokhmpjaaGreatDoorX.Kd

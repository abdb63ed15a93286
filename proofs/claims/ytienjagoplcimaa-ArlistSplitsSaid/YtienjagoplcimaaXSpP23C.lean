/- The walk of ArlistSplits: it comes to true. -/
import Derived.Test.YtienjagoplcimaaXSpP23B
import Derived.Test.YtienjagoplcimaaXSpOp
namespace Go.Proofs.Ytienjagoplcimaa
set_option linter.unusedVariables false
set_option linter.unusedSimpArgs false
open Go.RowKit Go.Proofs.YtienjagoplcimaaX.Sp Go.Proofs.YtienjagoplcimaaW.PrintWords

theorem splits_walk (l0 : List ByteArray) (a0 : Option Addr) (c0 : Nat) (l1 : List ByteArray) (a1 : Option Addr) (c1 : Nat) (W : World) (mc0 : l0.length ≤ c0) (rC0 : Kd.C Kd.string W a0 l0.length l0)
    (mc1 : l1.length ≤ c1) (rC1 : Kd.C Kd.string W a1 l1.length l1) (ql1 : (∀ z ∈ l1, z.size ≤ maxLen) ∧ l1.length ≤ maxLen) (x2 : Int) :
    Calls Try.prog 3 #[.slice a0 l0.length c0, .slice a1 l1.length c1, .int .i64 x2] W fun e w' => e = .returned (.bool true) ∧ Below W.heap.size W w' := by
  obtain ⟨k, hk⟩ := (splits_ev l0 l1 x2 (fun t ht => by have := ql1.1 t ht; unfold maxLen at this; omega)).rounds
  exact graverlaw23_ArlistSplits.calls k a0 c0 l0 a1 c1 l1 x2 true W rC0 mc0 rC1 mc1 hk
end Go.Proofs.Ytienjagoplcimaa

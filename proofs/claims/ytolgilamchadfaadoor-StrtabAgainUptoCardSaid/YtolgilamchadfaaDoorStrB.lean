/- Contracts over this translation: slices.Backward over texts, for every loop body that keeps the slice and its box. -/
import Derived.RangeFuncNested
import Derived.RangeFuncBound
import Derived.RangeFuncCalls
import Derived.RangeFuncLeaves
import Derived.RangeFuncWrites
import Derived.RangeFuncBox
import Derived.Shelf.Abstract
import Derived.WalkKit
import Derived.OwnWalkIn
import Derived.TacticsInMore
import Derived.LoopNIn
import Derived.LoopIn
import Derived.Test.YtolgilamchadfaaDoorStrA
namespace Go.Proofs.YtolgilamchadfaaDoor
set_option linter.unusedVariables false
set_option linter.unusedSimpArgs false
open Go.RowKit Go.Shelf
attribute [local go_sem] Oper.semAt_some

def el (l : List ByteArray) (i : Nat) : ByteArray := l[i]?.getD ⟨#[]⟩
/-- What has come when k rounds are over: the last k places, backwards. -/
def come (n k : Nat) : List Nat := (List.range k).map (fun t => n - 1 - t)
theorem come_succ (n k : Nat) : come n (k + 1) = come n k ++ [n - 1 - k] := by simp [come, List.range_succ]
theorem come_length (n k : Nat) : (come n k).length = k := by simp [come]
/-- What a round keeps: what lay below a mark, and the box. -/
def KeepsBox (Bs n₀ : Nat) (W W' : World) : Prop := Below n₀ W W' ∧ W'.heap[Bs]? = W.heap[Bs]?
theorem KeepsBox.refl (Bs n₀ : Nat) (W : World) : KeepsBox Bs n₀ W W := ⟨Below.refl _ _, rfl⟩
theorem KeepsBox.trans {Bs n₀ : Nat} {A B C : World} (h : KeepsBox Bs n₀ A B) (k : KeepsBox Bs n₀ B C) : KeepsBox Bs n₀ A C := ⟨h.1.trans k.1, k.2.trans h.2⟩
theorem KeepsBox.cell {Bs n₀ : Nat} {A B : World} (h : KeepsBox Bs n₀ A B) {v : Value} (hc : A.cell? ⟨Bs, 0, none⟩ = some v) : B.cell? ⟨Bs, 0, none⟩ = some v := by
  rw [World.cell?_of_block (w := A) (a := ⟨Bs, 0, none⟩) h.2]; exact hc

set_option maxRecDepth 100000 in
set_option maxHeartbeats 2000000 in
theorem back1_in (F : Fence) (n : Nat) (h7 : F.fn 26) (hro : F.round = none) (hn : 1 ≤ n) (l Bs n₀ b off cap : Nat) (zs : List ByteArray) (hreach : zs.length ≤ 1000000) (hb : b < n₀) (J Jx : List Nat → World → Prop)
    (hY : ∀ (pre : List Nat) (x : Nat) (W : World), J pre W → pre.length < zs.length → YieldAt F (n - 1) Tryd.prog l #[.int .i64 (x : Int), .string (el zs x)] W fun e W' =>
      (e = .returned (.bool true) ∧ J (pre ++ [x]) W' ∧ KeepsBox Bs n₀ W W') ∨ (e = .returned (.bool false) ∧ Jx (pre ++ [x]) W'))
    (W : World) (hBs : W.cell? ⟨Bs, 0, none⟩ = some (.slice (some ⟨b, off, none⟩) zs.length cap)) (hc : ∀ j, j < zs.length → W.cell? ⟨b, off + j, none⟩ = some (.string (el zs j))) (h0 : J [] W) :
    CallsIn F n Tryd.prog 26 #[.func (.yield l) #[] #[], .pointer (some ⟨Bs, 0, none⟩)] W fun e W' => (∃ v, e = .returned v) ∧
      ((∃ ys, ys = come zs.length zs.length ∧ J ys W') ∨ (∃ pre, True ∧ Jx pre W')) := by
  refine callsIn_of_wp Tryd.func26 rfl h7 ?_ hro
  simp only [Tryd.ntmps26, List.size_toArray, List.length_cons, List.length_nil, Nat.reduceAdd, Nat.reduceSub, Array.replicate_succ, Array.replicate_zero, List.push_toArray, List.append_toArray, List.nil_append, List.cons_append]
  gi_wp2
  gi_loopw [3] (fun i wr => ∃ k : Nat, k ≤ zs.length ∧ i = .int .i64 ((zs.length : Int) - 1 - k) ∧ J (come zs.length k) wr ∧ KeepsBox Bs n₀ W wr)
    (fun i _ => (intOf i + 1).toNat)
  case atStart => exact ⟨0, Nat.zero_le _, by go_num, h0, KeepsBox.refl _ _ _⟩
  case round =>
    obtain ⟨k, hk, rfl, hJs, hnx⟩ := hrel
    have hbx := hnx.cell hBs
    by_cases hlt : k < zs.length
    · have hcx : wr.cell? ⟨b, off + (zs.length - 1 - k), none⟩ = some (.string (el zs (zs.length - 1 - k))) := (hnx.1.cell (p := ⟨b, off + (zs.length - 1 - k), none⟩) hb).trans (hc _ (by omega))
      obtain ⟨fn, tmps, assign, body, hy, hR⟩ := hY _ (zs.length - 1 - k) wr hJs (by rw [come_length]; exact hlt)
      obtain ⟨i, hi⟩ : ∃ i : Nat, i = zs.length - 1 - k := ⟨_, rfl⟩
      rw [← hi] at hcx hy
      rw [show (zs.length : Int) - 1 - k = (i : Int) by omega]
      have hil : i < zs.length := by omega
      have HI := Lib.hid hi
      clear hi
      gi_wp2
      refine hR.mono ?_
      rintro e W3 (⟨rfl, hJ3, hk3⟩ | ⟨rfl, hJx3⟩)
      · gi_wp2
        go_roundw
        case rel => exact ⟨k + 1, by omega, by have := HI.out; go_num, by rw [come_succ]; exact hJ3, hnx.trans hk3⟩
        case measure => have := HI.out; simp [intOf]
      · gi_wp2
        refine bodyPost_ret (results_none rfl _ _ _) rfl ?_
        exact ⟨⟨_, rfl⟩, .inr ⟨_, trivial, hJx3⟩⟩
    · obtain rfl : k = zs.length := by omega
      gi_wp2
      go_end0
      exact ⟨⟨_, rfl⟩, .inl ⟨_, rfl, hJs⟩⟩
set_option maxRecDepth 100000 in
set_option maxHeartbeats 1000000 in
theorem back1_nil_in (F : Fence) (n : Nat) (h7 : F.fn 26) (hro : F.round = none) (l Bs : Nat) (a : Option Addr) (cap : Nat) (J : List Nat → World → Prop) (W : World) (hBs : W.cell? ⟨Bs, 0, none⟩ = some (.slice a 0 cap)) (h0 : J [] W) :
    CallsIn F n Tryd.prog 26 #[.func (.yield l) #[] #[], .pointer (some ⟨Bs, 0, none⟩)] W fun e W' => (∃ v, e = .returned v) ∧ J [] W' := by
  refine callsIn_of_wp Tryd.func26 rfl h7 ?_ hro
  simp only [Tryd.ntmps26, List.size_toArray, List.length_cons, List.length_nil, Nat.reduceAdd, Nat.reduceSub, Array.replicate_succ, Array.replicate_zero, List.push_toArray, List.append_toArray, List.nil_append, List.cons_append]
  gi_wp2
  gi_loopw [3] (fun i wr => i = .int .i64 (-1) ∧ J [] wr) (fun _ _ => 0)
  case atStart => exact ⟨rfl, h0⟩
  case round =>
    obtain ⟨rfl, hJs⟩ := hrel
    gi_wp2
    go_end0
    exact ⟨⟨_, rfl⟩, hJs⟩
set_option maxHeartbeats 1000000 in
theorem back_in (F : Fence) (n : Nat) (h5 : F.fn 15) (hro : F.round = none) (a : Option Addr) (len cap : Nat) (w : World) :
    CallsIn F n Tryd.prog 15 #[.slice a len cap] w fun e w' => e = .returned (.func (.func 26) #[] #[.pointer (some ⟨w.heap.size, 0, none⟩)]) ∧ w' = w.alloc (.cells #[.slice a len cap] 22) := by
  refine callsIn_of_wp Tryd.func15 rfl h5 ?_ hro
  simp only [Tryd.ntmps15, List.size_toArray, List.length_cons, List.length_nil, Nat.reduceAdd, Nat.reduceSub, Array.replicate_succ, Array.replicate_zero, List.push_toArray, List.append_toArray, List.nil_append, List.cons_append]
  gi_wp2
  go_ret
  exact ⟨rfl, rfl⟩
/-- slices.Backward(s) hands back a value that 'SeqStopsK': all places, backwards; or a part of them. -/
theorem back_stops (F : Fence) (n : Nat) (h7 : F.fn 26) (hro : F.round = none) (hn : 1 ≤ n) (Bs : Nat) (w₀ : World) (a : Option Addr) (cap : Nat) (zs : List ByteArray) (hreach : zs.length ≤ 1000000) (w : World) (hBs : Bs < w.heap.size)
    (hc : w.cell? ⟨Bs, 0, none⟩ = some (.slice a zs.length cap)) (hr : Rd w₀ a (zs.map Value.string)) (hb : Below w₀.heap.size w₀ w) :
    SeqStopsK F n Tryd.prog 26 #[.pointer (some ⟨Bs, 0, none⟩)] (fun x : Nat => #[Value.int .i64 (x : Int), Value.string (el zs x)]) (KeepsBox Bs w₀.heap.size) (fun ys => ys = come zs.length zs.length) (fun _ => True) zs.length w := fun l J Jx W hW _ _ hY h0 => by
  have hc' := (hW.cell (p := ⟨Bs, 0, none⟩) hBs).trans hc
  cases zs with
  | nil => exact (back1_nil_in F n h7 hro l Bs a cap J W hc' h0).mono fun e W' ⟨he, hj⟩ => ⟨he, .inl ⟨_, rfl, hj⟩⟩
  | cons z r =>
    obtain ⟨b0, o0, rfl, hcl⟩ := hr.at (by simp)
    have hcell : ∀ j, j < (z :: r).length → w₀.cell? ⟨b0, o0 + j, none⟩ = some (.string (el (z :: r) j)) := fun j hj => hcl j _ (by rw [List.getElem?_map, List.getElem?_eq_getElem hj]; simp only [el, List.getElem?_eq_getElem hj]; rfl)
    have hlt := cell_lt (hcell 0 (by simp))
    exact back1_in F n h7 hro hn l Bs w₀.heap.size b0 o0 cap (z :: r) hreach hlt J Jx hY W hc' (fun j hj => ((hb.trans (hW.mono hb.size)).cell (p := ⟨b0, o0 + j, none⟩) hlt).trans (hcell j hj)) h0
end Go.Proofs.YtolgilamchadfaaDoor

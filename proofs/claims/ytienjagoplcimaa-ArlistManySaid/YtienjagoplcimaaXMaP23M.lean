/- Plain laws: ArlistMany comes to true; its walk. -/
import Derived.Test.YtienjagoplcimaaXMax1
namespace Go.Proofs.YtienjagoplcimaaX.Ma
set_option linter.unusedVariables false
set_option linter.unusedSimpArgs false
open Go.RowKit Go.Proofs.Ytienjagoplcimaa Go.Proofs.YtienjagoplcimaaW.PrintWords Go.Proofs.YtienjagoplcimaaW.PrintLast Go.Proofs.YtienjagoplcimaaW.PrintMore

abbrev M := S28
theorem and7 (a : Int) : ∃ q : Nat, q < 8 ∧ Go.bits .and .i64 a 7 = (q : Int) := by
  refine ⟨((BitVec.ofInt 64 a).toNat &&& 7), Nat.lt_of_le_of_lt Nat.and_le_right (by decide), ?_⟩
  have h7 : (BitVec.ofInt 64 7).toNat = 7 := by decide
  have hle : ((BitVec.ofInt 64 a).toNat &&& 7) ≤ 7 := Nat.and_le_right
  show IntKind.i64.wrap (((BitVec.ofInt 64 a &&& BitVec.ofInt 64 7).toNat : Nat) : Int) = _
  rw [BitVec.toNat_and, h7, IntKind.wrap_i64]
  omega
def mA1 : M := ⟨⟨#[97]⟩, 0, 0, 0, 0, ⟨#[]⟩⟩
def mB1 : M := ⟨⟨#[98]⟩, 0, 0, 0, 0, ⟨#[]⟩⟩
theorem find_none (n : Nat) : findN ((List.replicate n z28).map toM) ⟨#[97]⟩ = none := by
  unfold findN
  rw [List.findIdx?_eq_none_iff]
  intro x hx
  obtain ⟨z, hz, rfl⟩ := List.mem_map.1 hx
  rw [List.eq_of_mem_replicate hz]
  simp [Lib.toList_data, toM, z28]
theorem repl_many (n : Nat) (hn : n ≤ 1027) : Ev (fun k => arlist_Replace.f k (List.replicate n z28) [mA1]) (if 1024 ≤ n then (([] : List M), (10 : Int)) else (List.replicate n z28 ++ [mA1], (0 : Int))) := by
  obtain ⟨y, hy⟩ : ∃ y, y = List.replicate n z28 := ⟨_, rfl⟩
  have hl : y.length = n := by rw [hy, List.length_replicate]
  have hf : findN (y.map toM) ⟨#[97]⟩ = none := by rw [hy]; exact find_none n
  rw [← hy]
  have hc : ar_Member.f y = some y := by unfold ar_Member.f; rw [if_pos (by omega)]
  have hfi : arlist_find.f y mA1.f0 = some (-1) := by
    unfold arlist_find.f; rw [if_pos (by omega)]
    unfold findI; rw [show mA1.f0 = ⟨#[97]⟩ from rfl, hf]
  have hg : ar_Good.f mA1.f0 = some true := by decide
  have hbad : ∀ a b c d e, arlist_bad.f mA1.f0 a b c d e = some false := fun a b c d e => by unfold arlist_bad.f; rw [hg]; rfl
  refine Ev.congr (g := fun k => arlist_Replace.f k y [mA1]) (f := fun k => arlist_Replace.l0 k y [mA1] 1 0) (fun k => by unfold arlist_Replace.f; rw [hc]; rfl) ?_
  by_cases h : 1024 ≤ n
  · rw [if_pos h]
    refine Ev.step (f := fun _ => some (([] : List M), (10 : Int))) (fun k => ?_) (Ev.now _)
    simp only [arlist_Replace.l0]
    rw [if_pos (by decide), if_pos (by decide), if_pos (by decide), show rd_T28 [mA1] 0 = mA1 from rfl, hfi, Option.bind_some, hbad, Option.bind_some, if_neg (by decide), if_neg (by decide), if_pos (by omega)]
  · rw [if_neg h]
    refine Ev.step (f := fun k => arlist_Replace.l0 k (y ++ [mA1]) [mA1] 1 1) (fun k => ?_) (Ev.step (f := fun _ => some (y ++ [mA1], (0 : Int))) (fun k => ?_) (Ev.now _))
    · simp only [arlist_Replace.l0]
      rw [if_pos (by decide), if_pos (by decide), if_pos (by decide), show rd_T28 [mA1] 0 = mA1 from rfl, hfi, Option.bind_some, hbad, Option.bind_some, if_neg (by decide), if_neg (by decide), if_neg (by omega), if_pos (by omega), show wrap64 (0 + 1) = 1 from by rw [wrap_s (by decide) (by decide)]; rfl]
    · simp only [arlist_Replace.l0]
      rw [if_neg (by decide)]
theorem ins_many (n : Nat) (hn : n ≤ 1027) : ∃ r, arlist_Insert.f (List.replicate n z28) 0 [mA1, mB1] = some (r, if 1024 < n + 2 then 10 else 0) := by
  have hg : ([mA1, mB1].all fun e => decide (0 < e.f0.size ∧ e.f0.size ≤ 255 ∧ (e.f0.data.toList.all fun b => decide (b.toNat < 128)) = true ∧ Lib.containsAny e.f0.data.toList [47, 10, 0] = false)) = true := by decide
  refine ⟨(insertR ((List.replicate n z28).map toM) 0 ([mA1, mB1].map toM)).1.map ofM, ?_⟩
  unfold arlist_Insert.f
  rw [if_pos ⟨by rw [List.length_replicate]; omega, by decide, by decide, hg⟩]
  congr 2
  unfold insertR
  rw [if_neg (by omega)]
  simp only [List.length_map, List.length_replicate]
  split
  · rename_i h; rw [if_pos (show 1024 < n + 2 from h)]
  · rename_i h; rw [if_neg (show ¬ 1024 < n + 2 from h)]
theorem many_ev (a : Int) : Ev (fun k => graverlaw23_ArlistMany.f k a) true := by
  obtain ⟨q, hq, hb⟩ := and7 a
  obtain ⟨n, hn⟩ : ∃ n, n = 1020 + q := ⟨_, rfl⟩
  have hw : wrap64 (1020 + Go.bits .and .i64 a 7) = (n : Int) := by rw [hb, wrap_s (by omega) (by omega)]; omega
  obtain ⟨r, hi⟩ := ins_many n (by omega)
  have hr := repl_many n (by omega)
  have hw1 : wrap64 ((n : Int) + 1) = (n : Int) + 1 := wrap_s (by omega) (by omega)
  have hw2 : wrap64 ((n : Int) + 2) = (n : Int) + 2 := wrap_s (by omega) (by omega)
  refine Ev.congr (f := fun k => (arlist_Replace.f k (List.replicate n z28) [mA1]).bind fun bt => if (n : Int) + 2 > 1024 then graverlaw23_ArlistMany.j0 k (n : Int) (if 1024 < n + 2 then 10 else 0) bt.2 10 0 else graverlaw23_ArlistMany.j0 k (n : Int) (if 1024 < n + 2 then 10 else 0) bt.2 0 0) (fun k => ?_) (Ev.bind hr ?_)
  · unfold graverlaw23_ArlistMany.f
    rw [hw, show graverlaw23_speaks.f = some true from rfl, Option.bind_some, if_pos rfl, if_pos (by omega), if_pos (by omega), Int.toNat_natCast, Option.bind_some]
    rw [show ([(⟨(⟨#[97]⟩ : ByteArray), 0, 0, 0, 0, (⟨#[]⟩ : ByteArray)⟩ : M), (⟨(⟨#[98]⟩ : ByteArray), 0, 0, 0, 0, (⟨#[]⟩ : ByteArray)⟩ : M)] : List M) = [mA1, mB1] from rfl, show ([(⟨(⟨#[97]⟩ : ByteArray), 0, 0, 0, 0, (⟨#[]⟩ : ByteArray)⟩ : M)] : List M) = [mA1] from rfl, hi, Option.bind_some, hw2]
  · by_cases h1 : 1024 < n + 2
    · by_cases h2 : 1024 ≤ n
      · refine Ev.step (f := fun _ => some true) (fun k => ?_) (Ev.now _)
        simp only [if_pos h1, if_pos h2, if_pos (show (n : Int) + 2 > 1024 by omega), graverlaw23_ArlistMany.j0, hw1, if_pos (show (n : Int) + 1 > 1024 by omega)]
        rfl
      · refine Ev.step (f := fun _ => some true) (fun k => ?_) (Ev.now _)
        simp only [if_pos h1, if_neg h2, if_pos (show (n : Int) + 2 > 1024 by omega), graverlaw23_ArlistMany.j0, hw1, if_neg (show ¬ (n : Int) + 1 > 1024 by omega)]
        rfl
    · have h2 : ¬ 1024 ≤ n := by omega
      refine Ev.step (f := fun _ => some true) (fun k => ?_) (Ev.now _)
      simp only [if_neg h1, if_neg h2, if_neg (show ¬ (n : Int) + 2 > 1024 by omega), graverlaw23_ArlistMany.j0, hw1, if_neg (show ¬ (n : Int) + 1 > 1024 by omega)]
      rfl
end Go.Proofs.YtienjagoplcimaaX.Ma
namespace Go.Proofs.Ytienjagoplcimaa
open Go.RowKit Go.Proofs.YtienjagoplcimaaX.Ma Go.Proofs.YtienjagoplcimaaW.PrintWords
theorem many_walk (x0 : Int) (W : World) : Calls Try.prog 5 #[.int .i64 x0] W fun e w' => e = .returned (.bool true) ∧ Below W.heap.size W w' := by
  obtain ⟨k, hk⟩ := (many_ev x0).rounds
  exact graverlaw23_ArlistMany.calls k x0 true W hk
end Go.Proofs.Ytienjagoplcimaa

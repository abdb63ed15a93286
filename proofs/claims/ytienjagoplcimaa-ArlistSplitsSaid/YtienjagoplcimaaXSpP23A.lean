/- Plain laws: members replaced and deleted, in one go and in two. -/
import Derived.Test.YtienjagoplcimaaXSpx2
namespace Go.Proofs.YtienjagoplcimaaX.Sp
set_option linter.unusedVariables false
set_option linter.unusedSimpArgs false
open Go.RowKit Go.Proofs.Ytienjagoplcimaa Go.Proofs.YtienjagoplcimaaW.PrintWords Go.Proofs.YtienjagoplcimaaW.PrintLast Go.Proofs.YtienjagoplcimaaW.PrintMore

abbrev M := S28
/-- the second letter is 'a' and what a sum leaves behind 10, which is below nought where the sum has turned over -/
def nm (c : Nat) : ByteArray := ⟨#[109, UInt8.ofNat (88 + c)]⟩
def GoodN (s : ByteArray) : Prop := ∃ c, c < 19 ∧ s = nm c
theorem good_ev {s : ByteArray} (h : GoodN s) : ar_Good.f s = some true := by
  obtain ⟨c, hc, rfl⟩ := h
  have : ∀ c : Fin 19, ar_Good.f (nm c.1) = some true := by decide
  exact this ⟨c, hc⟩
theorem rd28 (ms : List M) (j : Nat) (h : j < ms.length) : rd_T28 ms (j : Int) = ms[j] := by
  unfold rd_T28
  simp [h]
def repl1 (x : List M) (m : M) : List M := match findN (x.map toM) m.f0 with
  | some i => x.set i m
  | none => x ++ [m]
theorem repl1_len (x : List M) (m : M) : (repl1 x m).length ≤ x.length + 1 := by
  unfold repl1; split <;> simp
theorem fold_len (ms : List M) : ∀ x : List M, (ms.foldl repl1 x).length ≤ x.length + ms.length := by
  induction ms with
  | nil => intro x; simp
  | cons m r ih => intro x; have := ih (repl1 x m); have := repl1_len x m; simp only [List.foldl_cons, List.length_cons]; omega
theorem repl_round (ms : List M) (hml : ms.length ≤ 1000) (hg : ∀ m ∈ ms, GoodN m.f0) : ∀ d j, j + d = ms.length → ∀ x : List M, x.length + d ≤ 1000 →
    Ev (fun k => arlist_Replace.l0 k x ms (ms.length : Int) (j : Int)) ((ms.drop j).foldl repl1 x, (0 : Int)) := by
  intro d
  induction d with
  | zero =>
    intro j hj x hx
    obtain rfl : j = ms.length := by omega
    rw [List.drop_length]
    refine Ev.step (f := fun _ => some (x, (0 : Int))) (fun k => ?_) (Ev.now _)
    simp only [arlist_Replace.l0]; rw [if_neg (by omega)]
  | succ d ih =>
    intro j hj x hx
    have hlt : j < ms.length := by omega
    rw [List.drop_eq_getElem_cons hlt, List.foldl_cons]
    obtain ⟨m, hm⟩ : ∃ m, m = ms[j] := ⟨_, rfl⟩
    have hgm : GoodN m.f0 := hg m (by rw [hm]; exact List.getElem_mem hlt)
    have hl := repl1_len x m
    rw [← hm]
    refine Ev.step (f := fun k => arlist_Replace.l0 k (repl1 x m) ms (ms.length : Int) ((j + 1 : Nat) : Int)) (fun k => ?_) (ih (j + 1) (by omega) (repl1 x m) (by omega))
    have hf : arlist_find.f x m.f0 = some (findI (x.map toM) m.f0) := by unfold arlist_find.f; rw [if_pos (by omega)]
    have hbad : ∀ a b c d e, arlist_bad.f m.f0 a b c d e = some false := fun a b c d e => by unfold arlist_bad.f; rw [good_ev hgm]; rfl
    simp only [arlist_Replace.l0]
    rw [if_pos (by omega), if_pos (by omega), if_pos (by omega), rd28 ms j hlt, ← hm, hf, Option.bind_some, hbad, Option.bind_some, if_neg (by decide), wrap_up j (by omega)]
    cases hq : findN (x.map toM) m.f0 with
    | none =>
      have h1 : findI (x.map toM) m.f0 = -1 := by unfold findI; rw [hq]
      have h2 : repl1 x m = x ++ [m] := by unfold repl1; rw [hq]
      rw [h1, h2, if_neg (by decide), if_neg (by omega), if_pos (by omega)]
    | some i =>
      have hi := findN_lt hq
      rw [List.length_map] at hi
      have h1 : findI (x.map toM) m.f0 = (i : Int) := by unfold findI; rw [hq]
      have h2 : repl1 x m = x.set i m := by unfold repl1; rw [hq]
      rw [h1, h2, if_pos (by omega), if_pos (by omega), if_pos (by omega), Int.toNat_natCast]
theorem repl_ev (x ms : List M) (hg : ∀ m ∈ ms, GoodN m.f0) (h : x.length + ms.length ≤ 1000) : Ev (fun k => arlist_Replace.f k x ms) (ms.foldl repl1 x, (0 : Int)) := by
  have hc : ar_Member.f x = some x := by unfold ar_Member.f; rw [if_pos (by omega)]
  have := repl_round ms (by omega) hg ms.length 0 (by omega) x h
  rw [List.drop_zero] at this
  refine Ev.congr (fun k => ?_) this
  unfold arlist_Replace.f
  rw [hc]; rfl
theorem delR_cons (l : List MemD) (s : ByteArray) (r : List ByteArray) : delR l (s :: r) = match findN l s with
    | none => none
    | some i => delR (l.eraseIdx i) r := rfl
theorem delR_append : ∀ (a b : List ByteArray) (x : List MemD), delR x (a ++ b) = (delR x a).bind fun y => delR y b
  | [], b, x => rfl
  | s :: r, b, x => by
    rw [List.cons_append, delR_cons, delR_cons]
    cases findN x s with
    | none => rfl
    | some i => exact delR_append r b _
theorem toM_ofM (y : List MemD) : (y.map ofM).map toM = y := by
  rw [List.map_map]; conv => rhs; rw [← List.map_id y]
  rfl
theorem delR_len : ∀ (a : List ByteArray) (x y : List MemD), delR x a = some y → y.length ≤ x.length
  | [], x, y, h => by injection h with h; rw [h]; exact Nat.le_refl _
  | s :: r, x, y, h => by
    unfold delR at h
    cases hf : findN x s with
    | none => rw [hf] at h; cases h
    | some i =>
      rw [hf] at h
      have := delR_len r _ y h
      have h2 := List.length_eraseIdx_le x i
      omega
end Go.Proofs.YtienjagoplcimaaX.Sp

-- PRINTED by print.py (a twelfth state) out of the translation. Not trusted: Lean checks it.
import Derived.Test.YtienjagoplcimaaXUnx0
namespace Go.Proofs.YtienjagoplcimaaX.Un
open Go.RowKit Go.Proofs.YtienjagoplcimaaW.PrintWords Go.Proofs.YtienjagoplcimaaW.PrintLast Go.Proofs.YtienjagoplcimaaW.PrintMore
attribute [local go_sem] max2_int min2_int max_two min_two max_three min_three max_four min_four   -- for this text's walks alone
set_option linter.unusedVariables false
set_option linter.unusedSimpArgs false

section
open Go.Proofs.Ytienjagoplcimaa
theorem flat_single : ∀ l : List ByteArray, (l.flatMap fun s => [Value.string s]) = l.map Value.string
  | [] => rfl
  | x :: r => by rw [List.flatMap_cons, flat_single r]; rfl
def toM (e : S28) : MemD := ⟨e.f0, e.f1, e.f2, e.f3, e.f4, e.f5⟩
def ofM (e : MemD) : S28 := ⟨e.n, e.a, e.b, e.c, e.d, e.s⟩
theorem toM_flat (l : List S28) : (l.map toM).flatMap encM = l.flatMap fun e : S28 => [Value.string e.f0, .int .u64 e.f1, .int .u64 e.f2, .int .u64 e.f3, .int .u64 e.f4, .string e.f5] := by
  rw [List.flatMap_map]; rfl
theorem ofM_flat (l : List MemD) : (l.map ofM).flatMap (fun e : S28 => [Value.string e.f0, .int .u64 e.f1, .int .u64 e.f2, .int .u64 e.f3, .int .u64 e.f4, .string e.f5]) = l.flatMap encM := by
  rw [List.flatMap_map]; rfl
theorem rd_M {w : World} {A : Option Addr} {l : List S28} (h : Kd.C k28 w A l.length l) : Rd w A ((l.map toM).flatMap encM) := by
  rw [toM_flat]
  exact rd_of_C (d := k28) _ (by decide) (fun _ => rfl) (fun _ _ _ h => k28_open h) h
theorem R_M {w : World} {base : Nat} {v : Value} {l : List MemD} (h : w.ownsRow base 28 6 v l.length (l.flatMap encM)) : Kd.R k28 28 w base (fun _ => True) v (l.map ofM) := by
  refine R_of_owns (fun e : S28 => [.string e.f0, .int .u64 e.f1, .int .u64 e.f2, .int .u64 e.f3, .int .u64 e.f4, .string e.f5]) (fun _ => rfl) (fun w b ok x => k28_mkM w b ok x) ?_ (fun _ _ => trivial)
  rw [ofM_flat, List.length_map]
  exact h
/-! ### graverlaw23_speaks: function 8 (given) -/
def graverlaw23_speaks.f  : Option (Bool) := some true
theorem graverlaw23_speaks.calls  (r : Bool) (w : World) (h : graverlaw23_speaks.f  = some r) :
    Calls Try.prog 8 #[] w fun e w' => e = .returned (.bool r) ∧ Below w.heap.size w w' := by
  obtain rfl : true = r := Option.some.inj h
  exact speaks_m w
end

section
open Go.Proofs.Ytienjagoplcimaa
/-! ### arlist_Delete: function 10 (given) -/
def arlist_Delete.f (l0 : List (S28)) (l1 : List ByteArray) : Option ((List (S28)) × Int) := if l0.length ≤ 1000000 ∧ l1.length ≤ 1000000 then some ((deleteR (l0.map toM) l1).1.map ofM, (deleteR (l0.map toM) l1).2) else none
theorem arlist_Delete.calls (A0 : Option Addr) (c0 : Nat) (l0 : List (S28)) (A1 : Option Addr) (c1 : Nat) (l1 : List ByteArray) (r1 : List (S28)) (r2 : Int) (w : World) (hr0 : Kd.C k28 w A0 l0.length l0) (hc0 : l0.length ≤ c0) (hr1 : Kd.C Kd.string w A1 l1.length l1) (hc1 : l1.length ≤ c1) (h : arlist_Delete.f l0 l1 = some (r1, r2)) :
    Calls Try.prog 10 #[.slice A0 l0.length c0, .slice A1 l1.length c1] w fun e w' => ∃ v0_ : Value, e = .returned (.tuple #[v0_, .int .i64 r2]) ∧ Kd.R k28 28 w' w.heap.size (fun _ => True) v0_ r1 ∧ Below w.heap.size w w' := by
  unfold arlist_Delete.f at h
  split at h
  · rename_i hc
    injection h with h
    injection h with h1 h2
    subst h1; subst h2
    have hs : Rd w A1 (l1.flatMap fun s => [Value.string s]) := rd_of_C (d := Kd.string) _ (by decide) (fun _ => rfl) (fun _ _ _ h => h) hr1
    rw [flat_single l1] at hs
    have hm := delete_m (l0.map toM) (by rw [List.length_map]; exact hc.1) l1 hc.2 A0 c0 A1 c1 w (rd_M hr0) hs
    rw [List.length_map] at hm
    refine hm.mono ?_
    rintro e w' ⟨⟨v, he, ho⟩, hb⟩
    exact ⟨v, he, R_M ho, hb⟩
  · cases h
end

section
open Go.Proofs.Ytienjagoplcimaa
/-! ### arlist_Insert: function 11 (given) -/
def arlist_Insert.f (l0 : List (S28)) (a1 : Int) (l2 : List (S28)) : Option ((List (S28)) × Int) := if l0.length ≤ 1000000 ∧ 0 < l2.length ∧ l2.length ≤ 1000000 ∧ (l2.all fun e => decide (0 < e.f0.size ∧ e.f0.size ≤ 255 ∧ (e.f0.data.toList.all fun b => decide (b.toNat < 128)) = true ∧ Lib.containsAny e.f0.data.toList [47, 10, 0] = false)) = true then some ((insertR (l0.map toM) a1 (l2.map toM)).1.map ofM, (insertR (l0.map toM) a1 (l2.map toM)).2) else none
theorem arlist_Insert.calls (A0 : Option Addr) (c0 : Nat) (l0 : List (S28)) (a1 : Int) (A2 : Option Addr) (c2 : Nat) (l2 : List (S28)) (r1 : List (S28)) (r2 : Int) (w : World) (hr0 : Kd.C k28 w A0 l0.length l0) (hc0 : l0.length ≤ c0) (hr2 : Kd.C k28 w A2 l2.length l2) (hc2 : l2.length ≤ c2) (h : arlist_Insert.f l0 a1 l2 = some (r1, r2)) :
    Calls Try.prog 11 #[.slice A0 l0.length c0, .int .i64 a1, .slice A2 l2.length c2] w fun e w' => ∃ v0_ : Value, e = .returned (.tuple #[v0_, .int .i64 r2]) ∧ Kd.R k28 28 w' w.heap.size (fun _ => True) v0_ r1 ∧ Below w.heap.size w w' := by
  unfold arlist_Insert.f at h
  split at h
  · rename_i hc
    obtain ⟨hl, hm0, hml, ha⟩ := hc
    have hg : ∀ m ∈ l2.map toM, goodNm m.n := by
      intro m hm
      obtain ⟨x, hx, rfl⟩ := List.mem_map.1 hm
      have h2 := of_decide_eq_true (List.all_eq_true.1 ha x hx)
      exact ⟨h2.1, h2.2.1, fun j b hj => of_decide_eq_true (List.all_eq_true.1 h2.2.2.1 b (List.mem_of_getElem? hj)), h2.2.2.2⟩
    injection h with h
    injection h with h1 h2
    subst h1; subst h2
    have hm := insert_m (l0.map toM) (by rw [List.length_map]; exact hl) a1 (l2.map toM) (by rw [List.length_map]; exact hm0) (by rw [List.length_map]; exact hml) hg A0 c0 (by rw [List.length_map]; exact hc0) A2 c2 w (rd_M hr0) (rd_M hr2)
    rw [List.length_map, List.length_map] at hm
    refine hm.mono ?_
    rintro e w' ⟨⟨v, he, ho⟩, hb⟩
    exact ⟨v, he, R_M ho, hb⟩
  · cases h
end

section
open Go.Proofs.Ytienjagoplcimaa
/-! ### arlist_Move: function 12 (given) -/
def arlist_Move.f (l0 : List (S28)) (a1 : ByteArray) (a2 : Int) : Option ((List (S28)) × Int) := if l0.length ≤ 1000000 then some ((moveR (l0.map toM) a1 a2).1.map ofM, (moveR (l0.map toM) a1 a2).2) else none
theorem arlist_Move.calls (A0 : Option Addr) (c0 : Nat) (l0 : List (S28)) (a1 : ByteArray) (a2 : Int) (r1 : List (S28)) (r2 : Int) (w : World) (hr0 : Kd.C k28 w A0 l0.length l0) (hc0 : l0.length ≤ c0) (h : arlist_Move.f l0 a1 a2 = some (r1, r2)) :
    Calls Try.prog 12 #[.slice A0 l0.length c0, .string a1, .int .i64 a2] w fun e w' => ∃ v0_ : Value, e = .returned (.tuple #[v0_, .int .i64 r2]) ∧ Kd.R k28 28 w' w.heap.size (fun _ => True) v0_ r1 ∧ Below w.heap.size w w' := by
  unfold arlist_Move.f at h
  split at h
  · rename_i hc
    injection h with h
    injection h with h1 h2
    subst h1; subst h2
    have hm := move_m (l0.map toM) (by rw [List.length_map]; exact hc) a1 a2 A0 c0 w (rd_M hr0)
    rw [List.length_map] at hm
    refine hm.mono ?_
    rintro e w' ⟨⟨v, he, ho⟩, hb⟩
    exact ⟨v, he, R_M ho, hb⟩
  · cases h
end

end Go.Proofs.YtienjagoplcimaaX.Un

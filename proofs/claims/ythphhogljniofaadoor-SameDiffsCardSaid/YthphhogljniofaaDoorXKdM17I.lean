/- Contracts over this translation, models: slices.Clone. -/
import Derived.Test.YthphhogljniofaaDoorXKdM17D
namespace Go.Proofs.YthphhogljniofaaDoor
set_option linter.unusedVariables false
set_option linter.unusedSimpArgs false
open Go.RowKit Go.Proofs.YthphhogljniofaaDoorX.Kd Go.Proofs.YthphhogljniofaaDoorW.PrintWords Go.Proofs.YthphhogljniofaaDoorW.PrintLast Go.Proofs.YthphhogljniofaaDoorW.PrintMore

set_option maxRecDepth 100000 in
set_option maxHeartbeats 4000000 in
theorem cloneInts_any (xs : List Int) (a : Option Addr) (c : Nat) (w : World) (h : Kd.C (Kd.int .u64) w a xs.length xs) (hl : xs.length * 8 ≤ 140737488355328) :
    Calls Tryd.prog 30 #[.slice a xs.length c] w fun e w' => ∃ v, e = .returned v ∧ (Kd.int .u64).R 35 w' w.heap.size (fun _ => True) v xs ∧ Below w.heap.size w w' := by
  have H := Lib.hid h
  clear h
  go_enter Tryd.func30, Tryd.ntmps30
  have hq : ∀ a W, Sem.run Tryd.prog (binOp BinOp.eql 56 (Value.slice a xs.length c) (Value.slice none 0 0)) W = .ok (.bool (a == none)) W := by
    intro a W
    cases a <;> rfl
  cases a with
  | none =>
    have hx : xs = [] := by
      cases xs with
      | nil => rfl
      | cons x r =>
        obtain ⟨ad, _, e, _⟩ := Kd.C_get H.out (0 : Int) 0 (by omega) (by simp)
        cases e
    have HX := Lib.hid hx
    clear hx
    go_wp2
    go_ret
    rw [HX.out]
    exact ⟨_, rfl, Kd.R_nil _ _ _ _ _, Below.refl _ _⟩
  | some ad =>
    go_wp2_with (first | (at_builtin; refine Kd.R_append_rows (Kd.int .u64) (w0 := w) w.heap.size rfl (.tmp 5) (.tmp 6) 56 35 (.int .u64 0) 8 rfl Tryd.underlying56 info35 rfl (by decide) (by omega) _ [] xs _ _ _ (fun _ => True) (fun _ => False) rfl rfl ?aO ?aR (fun _ _ h => h) (fun _ h => h.elim) (fun _ _ => trivial) ?aB ?aS ?aL ?_))
    case aO =>
      refine ⟨fun _ _ => trivial, [], ?_, Reps.none _ _⟩
      exact World.ownsRow_lit (base := w.heap.size) (e := 35) (size := 1) _ _ 0 (by omega) (by unfold maxLen; omega) rfl
    case aR => exact Kd.C_alloc H.out _
    case aB => exact below_alloc (Below.refl _ _) _
    case aS => simp
    case aL => simpa using hl
    intro v1 w1 hR hB hG hat
    have HR := Lib.hid hR
    have HB := Lib.hid hB
    clear hR hB hG hat
    go_wp2
    go_ret
    exact ⟨_, rfl, HR.out, HB.out⟩
set_option maxRecDepth 100000 in
set_option maxHeartbeats 4000000 in
theorem cloneSymbols_any (xs : List S61) (a : Option Addr) (c : Nat) (w : World) (h : Kd.C k61 w a xs.length xs) (hl : xs.length * 64 ≤ 140737488355328) :
    Calls Tryd.prog 28 #[.slice a xs.length c] w fun e w' => ∃ v, e = .returned v ∧ k61.R 61 w' w.heap.size (fun _ => True) v xs ∧ Below w.heap.size w w' := by
  have H := Lib.hid h
  clear h
  go_enter Tryd.func28, Tryd.ntmps28
  have hq : ∀ a W, Sem.run Tryd.prog (binOp BinOp.eql 54 (Value.slice a xs.length c) (Value.slice none 0 0)) W = .ok (.bool (a == none)) W := by
    intro a W
    cases a <;> rfl
  cases a with
  | none =>
    have hx : xs = [] := by
      cases xs with
      | nil => rfl
      | cons x r =>
        obtain ⟨ad, _, e, _⟩ := Kd.C_get H.out z61 0 (by omega) (by simp)
        cases e
    have HX := Lib.hid hx
    clear hx
    go_wp2
    go_ret
    rw [HX.out]
    exact ⟨_, rfl, Kd.R_nil _ _ _ _ _, Below.refl _ _⟩
  | some ad =>
    go_wp2_with (first | (at_builtin; refine Kd.R_append_rows k61 (Rr := k61.K (w.alloc (.cells #[] 61))) (w0 := w) w.heap.size rfl (.tmp 5) (.tmp 6) 54 61 _ _ rfl Tryd.underlying54 info61 rfl (by decide) (by omega) _ [] xs _ _ _ (fun _ => True) (fun _ => False) rfl rfl ?aO ?aR (fun _ _ h => by rw [k61_open h]; exact k61_mkM _ _ _ _) (fun _ h => h.elim) (fun _ _ => trivial) ?aB ?aS ?aL ?_))
    case aO =>
      refine ⟨fun _ _ => trivial, [], ?_, Reps.none _ _⟩
      exact World.ownsRow_lit (base := w.heap.size) (e := 61) (size := k61.sz) _ _ 0 (by omega) (by unfold maxLen; omega) rfl
    case aR => exact Kd.C_alloc H.out _
    case aB => exact below_alloc (Below.refl _ _) _
    case aS => simp
    case aL => simpa using hl
    intro v1 w1 hR hB hG hat
    have HR := Lib.hid hR
    have HB := Lib.hid hB
    clear hR hB hG hat
    go_wp2
    go_ret
    exact ⟨_, rfl, HR.out, HB.out⟩
set_option maxRecDepth 100000 in
set_option maxHeartbeats 4000000 in
theorem cloneRelocs_any (xs : List S63) (a : Option Addr) (c : Nat) (w : World) (h : Kd.C k63 w a xs.length xs) (hl : xs.length * 32 ≤ 140737488355328) :
    Calls Tryd.prog 29 #[.slice a xs.length c] w fun e w' => ∃ v, e = .returned v ∧ k63.R 63 w' w.heap.size (fun _ => True) v xs ∧ Below w.heap.size w w' := by
  have H := Lib.hid h
  clear h
  go_enter Tryd.func29, Tryd.ntmps29
  have hq : ∀ a W, Sem.run Tryd.prog (binOp BinOp.eql 55 (Value.slice a xs.length c) (Value.slice none 0 0)) W = .ok (.bool (a == none)) W := by
    intro a W
    cases a <;> rfl
  cases a with
  | none =>
    have hx : xs = [] := by
      cases xs with
      | nil => rfl
      | cons x r =>
        obtain ⟨ad, _, e, _⟩ := Kd.C_get H.out z63 0 (by omega) (by simp)
        cases e
    have HX := Lib.hid hx
    clear hx
    go_wp2
    go_ret
    rw [HX.out]
    exact ⟨_, rfl, Kd.R_nil _ _ _ _ _, Below.refl _ _⟩
  | some ad =>
    go_wp2_with (first | (at_builtin; refine Kd.R_append_rows k63 (Rr := k63.K (w.alloc (.cells #[] 63))) (w0 := w) w.heap.size rfl (.tmp 5) (.tmp 6) 55 63 _ _ rfl Tryd.underlying55 info63 rfl (by decide) (by omega) _ [] xs _ _ _ (fun _ => True) (fun _ => False) rfl rfl ?aO ?aR (fun _ _ h => by rw [k63_open h]; exact k63_mkM _ _ _ _) (fun _ h => h.elim) (fun _ _ => trivial) ?aB ?aS ?aL ?_))
    case aO =>
      refine ⟨fun _ _ => trivial, [], ?_, Reps.none _ _⟩
      exact World.ownsRow_lit (base := w.heap.size) (e := 63) (size := k63.sz) _ _ 0 (by omega) (by unfold maxLen; omega) rfl
    case aR => exact Kd.C_alloc H.out _
    case aB => exact below_alloc (Below.refl _ _) _
    case aS => simp
    case aL => simpa using hl
    intro v1 w1 hR hB hG hat
    have HR := Lib.hid hR
    have HB := Lib.hid hB
    clear hR hB hG hat
    go_wp2
    go_ret
    exact ⟨_, rfl, HR.out, HB.out⟩
set_option maxRecDepth 100000 in
set_option maxHeartbeats 4000000 in
theorem cloneSegments_any (xs : List S65) (a : Option Addr) (c : Nat) (w : World) (h : Kd.C k65 w a xs.length xs) (hl : xs.length * 64 ≤ 140737488355328) :
    Calls Tryd.prog 27 #[.slice a xs.length c] w fun e w' => ∃ v, e = .returned v ∧ k65.R 65 w' w.heap.size (fun _ => True) v xs ∧ Below w.heap.size w w' := by
  have H := Lib.hid h
  clear h
  go_enter Tryd.func27, Tryd.ntmps27
  have hq : ∀ a W, Sem.run Tryd.prog (binOp BinOp.eql 37 (Value.slice a xs.length c) (Value.slice none 0 0)) W = .ok (.bool (a == none)) W := by
    intro a W
    cases a <;> rfl
  cases a with
  | none =>
    have hx : xs = [] := by
      cases xs with
      | nil => rfl
      | cons x r =>
        obtain ⟨ad, _, e, _⟩ := Kd.C_get H.out z65 0 (by omega) (by simp)
        cases e
    have HX := Lib.hid hx
    clear hx
    go_wp2
    go_ret
    rw [HX.out]
    exact ⟨_, rfl, Kd.R_nil _ _ _ _ _, Below.refl _ _⟩
  | some ad =>
    go_wp2_with (first | (at_builtin; refine Kd.R_append_rows k65 (Rr := k65.K (w.alloc (.cells #[] 65))) (w0 := w) w.heap.size rfl (.tmp 5) (.tmp 6) 37 65 _ _ rfl Tryd.underlying37 info65 rfl (by decide) (by omega) _ [] xs _ _ _ (fun _ => True) (fun _ => False) rfl rfl ?aO ?aR (fun _ _ h => by rw [k65_open h]; exact k65_mkM _ _ _ _) (fun _ h => h.elim) (fun _ _ => trivial) ?aB ?aS ?aL ?_))
    case aO =>
      refine ⟨fun _ _ => trivial, [], ?_, Reps.none _ _⟩
      exact World.ownsRow_lit (base := w.heap.size) (e := 65) (size := k65.sz) _ _ 0 (by omega) (by unfold maxLen; omega) rfl
    case aR => exact Kd.C_alloc H.out _
    case aB => exact below_alloc (Below.refl _ _) _
    case aS => simp
    case aL => simpa using hl
    intro v1 w1 hR hB hG hat
    have HR := Lib.hid hR
    have HB := Lib.hid hB
    clear hR hB hG hat
    go_wp2
    go_ret
    exact ⟨_, rfl, HR.out, HB.out⟩
set_option maxRecDepth 100000 in
set_option maxHeartbeats 4000000 in
theorem cloneSections_any (xs : List S58) (a : Option Addr) (c : Nat) (w0 w : World) (h : Kd.C k58 w0 a xs.length xs) (hb : Below w0.heap.size w0 w) (hl : xs.length * 168 ≤ 140737488355328) :
    Calls Tryd.prog 26 #[.slice a xs.length c] w fun e w' => ∃ v, e = .returned v ∧ (Kd.fixed k58 w0).R 58 w' w.heap.size (fun _ => True) v xs ∧ Below w.heap.size w w' := by
  have H := Lib.hid h
  clear h
  go_enter Tryd.func26, Tryd.ntmps26
  have hq : ∀ a W, Sem.run Tryd.prog (binOp BinOp.eql 36 (Value.slice a xs.length c) (Value.slice none 0 0)) W = .ok (.bool (a == none)) W := by
    intro a W
    cases a <;> rfl
  cases a with
  | none =>
    have hx : xs = [] := by
      cases xs with
      | nil => rfl
      | cons x r =>
        obtain ⟨ad, _, e, _⟩ := Kd.C_get H.out z58 0 (by omega) (by simp)
        cases e
    have HX := Lib.hid hx
    clear hx
    go_wp2
    go_ret
    rw [HX.out]
    exact ⟨_, rfl, Kd.R_nil _ _ _ _ _, Below.refl _ _⟩
  | some ad =>
    go_wp2_with (first | (at_builtin; refine Kd.R_append_rows (Kd.fixed k58 w0) (Rr := k58.K w0) (w0 := w) w.heap.size rfl (.tmp 5) (.tmp 6) 36 58 _ _ rfl Tryd.underlying36 info58 rfl (by show 0 < k58.sz; decide) (by omega) _ [] xs _ _ _ (fun _ => True) (fun _ => False) rfl rfl ?aO ?aR (fun _ _ h => h) (fun _ h => h.elim) (fun _ _ => trivial) ?aB ?aS ?aL ?_))
    case aO =>
      refine ⟨fun _ _ => trivial, [], ?_, Reps.none _ _⟩
      exact World.ownsRow_lit (base := w.heap.size) (e := 58) (size := k58.sz) _ _ 0 (by omega) (by unfold maxLen; omega) rfl
    case aR => exact ReadsRow.imp_ H.out (below_alloc hb _) (fun _ _ hp => hp)
    case aB => exact below_alloc (Below.refl _ _) _
    case aS => simp
    case aL => simpa using hl
    intro v1 w1 hR hB hG hat
    have HR := Lib.hid hR
    have HB := Lib.hid hB
    clear hR hB hG hat
    go_wp2
    go_ret
    exact ⟨_, rfl, HR.out, HB.out⟩
end Go.Proofs.YthphhogljniofaaDoor

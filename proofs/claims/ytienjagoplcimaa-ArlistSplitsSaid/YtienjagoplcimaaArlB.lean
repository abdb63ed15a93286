/- Contracts over this translation: slices.Delete of one member, in a row of the call's own. -/
import Derived.Test.YtienjagoplcimaaArlA
import Derived.Lib.SliceRun
import Derived.Deep.RegionLaw
import Derived.Deep.DrawnRows
namespace Go.Proofs.Ytienjagoplcimaa
set_option linter.unusedVariables false
set_option linter.unusedSimpArgs false
open Go.RowKit Go.Proofs.YtienjagoplcimaaW.PrintWords

def kM : Kd MemD := Kd.iso (Kd.pair Kd.string (Kd.pair (Kd.int .u64) (Kd.pair (Kd.int .u64) (Kd.pair (Kd.int .u64) (Kd.pair (Kd.int .u64) Kd.string))))) (fun x : MemD => (x.n, x.a, x.b, x.c, x.d, x.s))
theorem kM_M {w : World} {base : Nat} {ok : Nat → Prop} {x : MemD} {cs : List Value} (h : kM.M w base ok x cs) : cs = encM x := by
  obtain ⟨_, _, rfl, rfl, ⟨_, _, rfl, rfl, ⟨_, _, rfl, rfl, ⟨_, _, rfl, rfl, ⟨_, _, rfl, rfl, rfl⟩⟩⟩⟩⟩ := h
  exact rfl
theorem kM_mk (w : World) (base : Nat) (ok : Nat → Prop) (x : MemD) : kM.M w base ok x (encM x) :=
  ⟨[.string x.n], [.int .u64 x.a, .int .u64 x.b, .int .u64 x.c, .int .u64 x.d, .string x.s], rfl, rfl, ⟨[.int .u64 x.a], [.int .u64 x.b, .int .u64 x.c, .int .u64 x.d, .string x.s], rfl, rfl, ⟨[.int .u64 x.b], [.int .u64 x.c, .int .u64 x.d, .string x.s], rfl, rfl, ⟨[.int .u64 x.c], [.int .u64 x.d, .string x.s], rfl, rfl, ⟨[.int .u64 x.d], [.string x.s], rfl, rfl, rfl⟩⟩⟩⟩⟩
theorem reps_eq {α : Type} {R : α → List Value → Prop} (en : α → List Value) (sz : Nat) (hen : ∀ z, (en z).length = sz) (hR : ∀ x c, R x c → c = en x) (hsz : 0 < sz) {l : List α} {cs : List Value} (h : Reps R sz l cs) : cs = l.flatMap en := by
  apply List.ext_getElem?
  intro q
  have hl : cs.length = l.length * sz := h.1
  by_cases hq : q < l.length * sz
  · have hj : q / sz < l.length := (Nat.div_lt_iff_lt_mul hsz).2 hq
    have hm : q % sz < sz := Nat.mod_lt _ hsz
    have e2 : q / sz * sz + q % sz = q := by rw [Nat.mul_comm]; exact Nat.div_add_mod q sz
    have h9 := flat_get en sz hen l (q / sz) hj (q % sz) hm
    rw [e2] at h9
    have h8 := hR _ _ (h.2 (q / sz) _ (List.getElem?_eq_getElem hj))
    rw [h9, ← h8, List.getElem?_take, if_pos hm, List.getElem?_drop, e2]
  · rw [List.getElem?_eq_none (by omega), List.getElem?_eq_none (by rw [flat_length en sz hen]; omega)]
theorem owns_of_R {w : World} {base : Nat} {e : TypeId} {ok : Nat → Prop} {v : Value} {l : List MemD} (h : kM.R e w base ok v l) : w.ownsRow base e 6 v l.length (l.flatMap encM) := by
  obtain ⟨_, inner, ho, hr⟩ := h
  rw [← reps_eq encM 6 encM_length (fun _ _ hc => kM_M hc) (by decide) hr]
  exact ho
theorem R_of_own {w : World} {base : Nat} {e : TypeId} {ok : Nat → Prop} {v : Value} {l : List MemD} (h : w.ownsRow base e 6 v l.length (l.flatMap encM)) (hok : ∀ k, v.ownBlock = some k → ok k) : kM.R e w base ok v l :=
  R_of_owns encM encM_length kM_mk h hok

def zM : List Value := [.string ⟨#[]⟩, .int .u64 0, .int .u64 0, .int .u64 0, .int .u64 0, .string ⟨#[]⟩]
/-- 'clear' of one member. -/
theorem run_clear_m (w : World) (ty : TypeId) (b o c : Nat) (hc : ∀ j, j < 6 → (w.cell? ⟨b, o + j, none⟩).isSome = true) (hf : ∀ j, j < 6 → w.frozen? ⟨b, o + j, none⟩ = false) :
    (Builtin.clear_ #[24] ty #[.slice (some ⟨b, o, none⟩) 1 c]).run Try.prog w = .ok (.tuple #[]) (w.setCells b o zM) := by
  have hst := run_storeCells_cells (P := Try.prog) b o zM 0 w (fun j hj => hc j hj) (fun j hj => hf j hj) (by intro v hv'; simp [zM] at hv'; rcases hv' with rfl | rfl | rfl | rfl | rfl | rfl <;> rfl)
  simp only [Nat.add_zero] at hst
  have hv : ∀ w, (zeroValue 28).run Try.prog w = .ok (.agg #[.string ⟨#[]⟩, .int .u64 0, .int .u64 0, .int .u64 0, .int .u64 0, .string ⟨#[]⟩]) w := fun w => by kernel_rfl
  simp [Builtin.clear_, run_underlying Try.underlying24, hv, Value.cells, Builtin.zeroCells]
  rw [show (List.map (fun i => [Value.string { data := #[] }, Value.int IntKind.u64 0, Value.int IntKind.u64 0, Value.int IntKind.u64 0, Value.int IntKind.u64 0, Value.string { data := #[] }][i % 6]?.getD default) (List.range 6)) = zM from rfl, hst]
  rfl
theorem wpList_clear_run {P : Program} (w : World) {ops : Array Oper} {rest : List Oper} {o : Oper} {a : Act} {Q : Exit → Act → World → Prop} (hgd : o.guard = none) (d : Operand) (t : TypeId)
    (ho : o.op = .call { callee := .builtin .clear, args := #[d], argTypes := #[t] }) (v : Value) (hd : a.eval d = v) {v' : Value} {w' : World}
    (hr : (Builtin.clear_ #[t] o.type #[v]).run P w = .ok v' w') (h : wpList P ops Q rest (a.put o.dst v') w') : wpList P ops Q (o :: rest) a w := by
  refine wpList_plain hgd fun K hK => ?_
  unfold Oper.wp execOp
  simp only [ho, resolve, invoke, builtin, Sem.run_bind, Sem.run_pure, Result.andThen_ok, List.map_toArray, List.map_cons, List.map_nil, hd, hr]
  exact hK _ _ h
/-- What lies behind a row's elements is no matter of the row. -/
theorem owns_setCells_past {w : World} {base g n c : Nat} {e : TypeId} {xs : List Value} (h : w.ownsRow base e 6 (.slice (some ⟨g, 0, none⟩) n c) n xs) (o : Nat) (vs : List Value) (ho : n * 6 ≤ o) (hfit : o + vs.length ≤ c * 6) :
    (w.setCells g o vs).ownsRow base e 6 (.slice (some ⟨g, 0, none⟩) n c) n xs ∧ w.grownBy (w.setCells g o vs) (some g) := by
  obtain ⟨hl, h2⟩ := h
  rcases h2 with ⟨hv, _⟩ | ⟨g', cap, cur, hv, hb, hh, h1, h2, h3, h4⟩
  · cases hv
  injection hv with ha _ hc
  injection ha with ha
  injection ha with hg
  subst hg; subst hc
  obtain ⟨cur', q1, q2, q3⟩ := setCells_row vs o w cur hh (by omega)
  obtain ⟨s1, s2, s3, s4⟩ := setCells_same g vs o w
  refine ⟨⟨hl, .inr ⟨g, c, cur', rfl, hb, q1, h1, h2, by rw [q2, h3], ?_⟩⟩, ⟨s1, s2, s3, by rw [s4]; exact Nat.le_refl _, fun k' _ hk' => setCells_far vs _ k' (fun he => hk' (by rw [he]))⟩⟩
  rw [q3, List.append_assoc, List.take_append_of_le_length (by rw [List.length_take, Array.length_toList]; omega), List.take_take, Nat.min_eq_left ho]
  exact h4
set_option maxHeartbeats 1000000 in
set_option maxRecDepth 100000 in
theorem sdel_m (l : List MemD) (i : Nat) (hi : i < l.length) (hl : l.length ≤ 1000000) (g c base : Nat) (w : World) (hbase : base ≤ w.heap.size)
    (hown : w.ownsRow base 28 6 (.slice (some ⟨g, 0, none⟩) l.length c) l.length (l.flatMap encM)) :
    Calls Try.prog 23 #[.slice (some ⟨g, 0, none⟩) l.length c, .int .i64 (i : Int), .int .i64 ((i : Int) + 1)] w fun e w' => e = .returned (.slice (some ⟨g, 0, none⟩) (l.length - 1) c) ∧
      w'.ownsRow base 28 6 (.slice (some ⟨g, 0, none⟩) (l.length - 1) c) (l.length - 1) ((l.eraseIdx i).flatMap encM) ∧ w.grownBy w' (some g) := by
  obtain ⟨i0, hi0, hz0, hz1, hz2⟩ := info_parts Try.infoMem
  have hsz : (Try.prog.info? 28).map (·.size) = some kM.sz := by rw [hi0]; simp [hz1]; rfl
  have hcap : l.length ≤ c ∧ c ≤ maxLen := by
    rcases hown.2 with ⟨hv, _⟩ | ⟨g', cap, cur, hv, _, _, h1, h2, _⟩
    · cases hv
    · injection hv with _ _ hc; subst hc; exact ⟨h1, h2⟩
  have hc1 := hcap.1
  have hc2 : c ≤ 9223372036854775807 := by have := hcap.2; unfold maxLen at this; omega
  have HR := Lib.hid (R_of_own (ok := fun _ => True) hown (fun _ _ => trivial))
  have HL := Lib.hid hi
  clear hown hcap
  have hil : (i : Int) < (l.length : Int) := by omega
  have hic : i ≤ c := by omega
  have hi1 : i + 1 ≤ l.length := by omega
  have hi2 : i + 1 ≤ c := by omega
  have hj0 : (0 : Int) ≤ (i : Int) + 1 := by omega
  have hj1 : (i : Int) + 1 ≤ (l.length : Int) := by omega
  have HA := Lib.hid (show (if c = i + 1 then some (⟨g, 0, none⟩ : Addr) else some ⟨g, (i + 1) * 6, none⟩) = if c = i + 1 then some ⟨g, 0, none⟩ else (some (⟨g, 0, none⟩ : Addr)).map (·.add ((i + 1) * kM.sz)) by rw [Option.map_some, Lib.add_plain, Nat.zero_add]; rfl)
  go_enter Try.func23, Try.ntmps23
  go_wp2_with (fail)
  go_region_law (first | (refine Kd.R_delete_step kM (c := c) (k := i) (n := l.length) (g := g) (m := l.length - (i + 1)) (c2 := c - (i + 1)) (A := if c = i + 1 then some (⟨g, 0, none⟩ : Addr) else some ⟨g, (i + 1) * 6, none⟩) (ok := fun _ => True) (xs := l) base (by simp [Region.wanted]) _ _ 24 28 (by rfl) Try.underlying24 hsz (by simp [Act.eval, Act.put]) (by simp [Act.eval, Act.put]) HA.out rfl (Kd.R_drew HR.out) HL.out (Below.refl _ _) hbase ?_; intro w1 hR1 hB1 hG1))
  have hn1 : ¬ (c = l.length - 1) := by omega
  have hn2 : l.length - 1 ≤ l.length := by omega
  have hn3 : l.length - 1 ≤ c := by omega
  have hel : (l.eraseIdx i).length = l.length - 1 := List.length_eraseIdx_of_lt HL.out
  have hO := owns_of_R hR1
  rw [hel] at hO
  have HO := Lib.hid hO
  have HG := Lib.hid hG1
  have HE := Lib.hid hel
  clear hR1 hB1 hG1 hO hel
  have HC : Hid (∀ ty, (Builtin.clear_ #[24] ty #[.slice (some ⟨g, (l.length - 1) * 6, none⟩) 1 (c - (l.length - 1))]).run Try.prog w1 = .ok (.tuple #[]) (w1.setCells g ((l.length - 1) * 6) zM)) := Lib.hid (fun ty => by
    rcases HO.out.2 with ⟨hv, _⟩ | ⟨g', cap, cur, hv, hb, hh, h1, h2, h3, h4⟩
    · cases hv
    injection hv with ha _ hc
    injection ha with ha
    injection ha with hg
    subst hg; subst hc
    refine run_clear_m w1 ty g _ _ (fun j hj => ?_) (fun j _ => blk_frozen hh _)
    rw [cell_of_row w1 g _ cur _ (0, 0) hh, Array.getElem?_eq_getElem (by rw [h3]; omega)]
    rfl)
  have h11 : l.length - (l.length - 1) = 1 := by omega
  generalize hA25 : (if c = i + 1 then some (⟨g, 0, none⟩ : Addr) else some ⟨g, (i + 1) * 6, none⟩) = A25
  clear HA hA25
  go_wp2_with (refine wpList_clear_run w1 rfl (.tmp 31) 24 rfl (.slice (some ⟨g, (l.length - 1) * 6, none⟩) 1 (c - (l.length - 1))) ?hcv (HC.out _) ?_)
  case hcv => rfl
  go_ret
  refine ⟨rfl, ?_⟩
  have hcfit : (l.length - 1) * 6 + zM.length ≤ c * 6 := by
    have : zM.length = 6 := rfl
    omega
  have hp := owns_setCells_past HO.out ((l.length - 1) * 6) zM (Nat.le_refl _) hcfit
  have hg : w.grownBy w1 (some g) := ⟨HG.out.os, HG.out.tape, HG.out.output, HG.out.size, HG.out.block⟩
  exact ⟨hp.1, hg.trans hp.2⟩
end Go.Proofs.Ytienjagoplcimaa

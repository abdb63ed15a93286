/- CellsColumns: for every input the law returns true, and each argument reads behind the call as it read before. Condition: the listed package-level variables start as the program's text lays them (the card ties them). -/
import Derived.Test.YtipnoeffahnfaaaDoorXCoP25W
import Derived.Test.YtipnoeffahnfaaaDoorCards
import Derived.Test.YtipnoeffahnfaaaDoorTie
import Derived.Test.YtipnoeffahnfaaaDoorXCoOp
import Derived.WalkKit
import Derived.ProofKit
import Derived.OpenShut
import Derived.ShutString
import Derived.SizedLaws
import Derived.Deep.DeepHandedRow
import Derived.Lib.LaidU8
import Derived.MakeChecks
import Derived.Lay
import Derived.SevenTiedAt
namespace Go.Proofs.YtipnoeffahnfaaaDoor.cellsColumnsUpto
open Go.ChangeShapes Go.WideShapes Go.ChangeAt Go.RowKit
open Go.ChangeMaps (open_string shut_string)
set_option linter.unusedVariables false
set_option linter.unusedSimpArgs false
theorem laidOut : laidOutB Tryd.prog = true := by kernel_rfl
theorem own : ownKnob Tryd.prog.godebug = none := by kernel_rfl
theorem tabs {W : World} (h : laidMetH Tryd.prog Rows.cellsColumnsUptoRow.laid W) : Tabs W := by
  have h : laidMet Tryd.prog Rows.cellsColumnsUptoRow.laid W := by rw [MakeChecks.laidMetH_plain _ _ _ (by kernel_rfl)] at h; exact h
  exact tabs_of_laid h (List.mem_of_getElem? (i := 1) (by kernel_rfl)) (List.mem_of_getElem? (i := 2) (by kernel_rfl))
theorem laid_met (os : Os) : laidMetH Tryd.prog Rows.cellsColumnsUptoRow.laid ((World.laidAll Tryd.prog os Rows.cellsColumnsUptoRow.laid).forCall (fun _ _ => 0) ⟨#[], #[.slice none 0 0, .int .i64 0], []⟩).memory := by
  rw [MakeChecks.laidMetH_plain _ _ _ (by kernel_rfl)]; exact laidMet_laidAll _ (by kernel_rfl) (by kernel_rfl)
theorem reads (os : Os) {H : Type} (enc : TypeId × Value → H) : ∃ places, DataW.whole enc Tryd.prog ((World.laidAll Tryd.prog os Rows.cellsColumnsUptoRow.laid).forCall (fun _ _ => 0) ⟨#[], #[.slice none 0 0, .int .i64 0], []⟩).memory Tryd.f6.params.toList Rows.cellsColumnsSpec.vars false #[(.slice none 0 0 : Value), (.int .i64 0 : Value)].toList 8 = some ([.nil, .lit (.int .i64 0)], [], places) := ⟨[], by kernel_rfl⟩
theorem strings_bulk {H : Type} {enc : TypeId × Value → H} {W : World} {sp : Nat → Bool} {held : Bool} {t e : TypeId} {v : Value} {D : DataW H} {ps : List MemPlace} (ht : Tryd.prog.underlying t = some (.slice e)) (he : Tryd.prog.underlying e = some .string) (hc : Tryd.prog.cellsOf e = 1)
    (h : DataW.Trod enc Tryd.prog W 0 sp held t v D ps) {l : List ByteArray} {a : Option Addr} {c : Nat} (hv : v = .slice a l.length c) (hC : Go.Proofs.YtipnoeffahnfaaaDoorW.PrintWords.Kd.C Go.Proofs.YtipnoeffahnfaaaDoorW.PrintWords.Kd.string W a l.length l) : (l.map (fun s => s.size + 1)).sum ≤ Rows.uptoBulk D := by
  subst hv
  obtain ⟨fuel, hf⟩ := h
  rcases DataW.trod_slice ht hf with ⟨h1, _⟩ | ⟨ad, len, cap, elems, rest, n, _, h1, hx, _, _, _, h5, h6, _⟩
  · have e1 : a = none ∧ l = [] ∧ c = 0 := by simpa [Value.cells] using h1
    obtain ⟨_, rfl, _⟩ := e1
    simp
  · have e1 : a = some ad ∧ l.length = len ∧ c = cap := by simpa [Value.cells] using h1
    obtain ⟨rfl, rfl, rfl⟩ := e1
    have hD : D = .slice (elems.map (·.1)) (rest.map (·.1)) := congrArg Prod.fst hx
    have hel : elems.map (·.1) = l.map (fun s => DataW.lit (.string s.data.toList)) := by
      refine List.ext_getElem (by rw [List.length_map, List.length_map, h5]) (fun i hi1 hi2 => ?_)
      rw [List.length_map] at hi2
      have h8 := h6 i hi2
      rw [List.getElem?_eq_getElem (by omega), hc] at h8
      obtain ⟨cs, hcs, hy⟩ := Option.bind_eq_some_iff.1 h8
      obtain ⟨s, rfl, hy2, _⟩ := DataW.trod_string he hy
      rw [List.getElem_map, List.getElem_map, hy2]
      obtain ⟨ad2, he2, hc2⟩ := hC.2.2 (by omega)
      obtain rfl := Option.some.inj he2
      obtain ⟨c2, _, hk2, hcell⟩ := hc2 i _ (List.getElem?_eq_getElem hi2)
      have hk3 : c2 = [.string l[i]] := hk2
      subst hk3
      have g1 := hcell 0 _ rfl
      unfold World.cells? at hcs
      rw [if_pos (Nat.zero_le _)] at hcs
      have g2 := (mapM_range_get hcs).2 0 _ rfl
      rw [Go.Deep.add_add] at g2
      rw [show Go.Proofs.YtipnoeffahnfaaaDoorW.PrintWords.Kd.string.sz = 1 from rfl] at g1
      rw [g1] at g2
      injection g2 with g2
      injection g2 with g2
      rw [g2]
    have hsum : ∀ l : List ByteArray, Rows.uptoBulkAll (H := H) (l.map (fun s => DataW.lit (.string s.data.toList))) = (l.map (fun s => s.size + 1)).sum := by
      intro l
      induction l with
      | nil => simp [Rows.uptoBulkAll]
      | cons x r ih =>
        rw [List.map_cons, List.map_cons, List.sum_cons, ← ih]
        simp only [Rows.uptoBulkAll, Rows.uptoBulk]
        rw [Array.length_toList]; rfl
    rw [hD, ← hsum, ← hel]
    simp only [Rows.uptoBulk]
    omega
theorem bulk_mem {H : Type} : ∀ {ds : List (DataW H)} {d : DataW H}, d ∈ ds → Rows.uptoBulk d ≤ Rows.uptoBulkAll ds
  | x :: r, d, h => by
    simp only [Rows.uptoBulkAll]
    rcases List.mem_cons.1 h with rfl | h
    · omega
    · have := bulk_mem h; omega
theorem sum_mem : ∀ {l : List ByteArray} {s : ByteArray}, s ∈ l → s.size ≤ (l.map (fun s => s.size + 1)).sum
  | x :: r, s, h => by
    rw [List.map_cons, List.sum_cons]
    rcases List.mem_cons.1 h with rfl | h
    · omega
    · have := sum_mem h; omega
theorem rows_bulk {H : Type} {enc : TypeId × Value → H} {W : World} {sp : Nat → Bool} {held : Bool} {t e e2 : TypeId} {v : Value} {D : DataW H} {ps : List MemPlace} (ht : Tryd.prog.underlying t = some (.slice e)) (he : Tryd.prog.underlying e = some (.slice e2)) (he2 : Tryd.prog.underlying e2 = some .string) (hc : Tryd.prog.cellsOf e = 1) (hc2 : Tryd.prog.cellsOf e2 = 1)
    (h : DataW.Trod enc Tryd.prog W 0 sp held t v D ps) {q : Nat} {l : List (List ByteArray)} {a : Option Addr} {c : Nat} (hv : v = .slice a l.length c) (hC : Go.Proofs.YtipnoeffahnfaaaDoorW.PrintWords.Kd.C (Go.Proofs.YtipnoeffahnfaaaDoorW.PrintWords.Kd.slice q Go.Proofs.YtipnoeffahnfaaaDoorW.PrintWords.Kd.string) W a l.length l) : ∀ r ∈ l, ∀ s ∈ r, s.size ≤ Rows.uptoBulk D := by
  subst hv
  obtain ⟨fuel, hf⟩ := h
  rcases DataW.trod_slice ht hf with ⟨h1, _⟩ | ⟨ad, len, cap, elems, rest, n, _, h1, hx, _, _, _, h5, h6, _⟩
  · have e1 : a = none ∧ l = [] ∧ c = 0 := by simpa [Value.cells] using h1
    obtain ⟨_, rfl, _⟩ := e1
    intro r hr; cases hr
  · have e1 : a = some ad ∧ l.length = len ∧ c = cap := by simpa [Value.cells] using h1
    obtain ⟨rfl, rfl, rfl⟩ := e1
    have hD : D = .slice (elems.map (·.1)) (rest.map (·.1)) := congrArg Prod.fst hx
    intro r hr s hs
    obtain ⟨i, hi2, rfl⟩ := List.getElem_of_mem hr
    have h8 := h6 i hi2
    rw [List.getElem?_eq_getElem (by omega), hc] at h8
    obtain ⟨cs, hcs, hy⟩ := Option.bind_eq_some_iff.1 h8
    obtain ⟨ad2, he2', hcc⟩ := hC.2.2 (by omega)
    obtain rfl := Option.some.inj he2'
    obtain ⟨c2, _, hk2, hcell⟩ := hcc i _ (List.getElem?_eq_getElem hi2)
    obtain ⟨A1, c1, rfl, _, hC1⟩ := hk2
    have g1 := hcell 0 _ rfl
    unfold World.cells? at hcs
    rw [if_pos (Nat.zero_le _)] at hcs
    obtain ⟨gl, gg⟩ := mapM_range_get hcs
    obtain ⟨u, rfl⟩ : ∃ u, cs = [u] := List.length_eq_one_iff.1 gl
    have g2 := gg 0 _ rfl
    rw [Go.Deep.add_add] at g2
    have g1' : W.cell? (ad.add (i * 1 + 0)) = some (.slice A1 l[i].length c1) := g1
    rw [g1'] at g2
    injection g2 with g2
    subst g2
    have hT : DataW.Trod enc Tryd.prog W 0 sp held e (.slice A1 l[i].length c1) elems[i].1 elems[i].2 := ⟨n, hy⟩
    have hb := strings_bulk he he2 hc2 hT rfl hC1
    have h1 := sum_mem hs
    have h2 := bulk_mem (ds := elems.map (·.1)) (List.mem_map.2 ⟨elems[i], List.getElem_mem _, rfl⟩)
    rw [hD]
    simp only [Rows.uptoBulk]
    omega
set_option maxRecDepth 100000 in
theorem contract (H : Type) (enc : TypeId × Value → H) (W : World) (base : Nat) (args : Array Value) (ds gs : List (DataW H)) (before : List MemPlace)
    (hval : ∀ (j : Nat) t v, Tryd.f6.params[j]? = some t → args[j]? = some v → Value.okWide Tryd.prog W .any base t v)
    (hW : DataW.Whole enc Tryd.prog Tryd.f6.params.toList Rows.cellsColumnsSpec.vars false W args.toList ds gs before) (hL : laidMetH Tryd.prog Rows.cellsColumnsUptoRow.laid W) (hsh : W.ShapedOpen Tryd.prog)
    (hbulk : Rows.uptoBulkAll (ds ++ gs) ≤ 1048576)
    (hsz : (DataW.weightsEach Tryd.prog (Tryd.f6.params.toList ++ Rows.cellsColumnsSpec.plain.varTypes Tryd.prog) (ds ++ gs)).all (· ≤ reachBytes) = true) :
    Calls Tryd.prog 6 args W fun e W' => ∃ v, e = .returned v ∧ Rows.cellsColumnsSpec.post enc Tryd.prog Tryd.f6 false true false false W args v W' := by
  have hT := tabs hL
  have hW' := hW
  obtain ⟨p, q, hA0, hV, rfl, hfz, hnd⟩ := hW
  have hA : DataW.TrodAll enc Tryd.prog W 0 (fun _ => true) true Tryd.f6.params.toList args.toList ds p := hA0
  rw [Tryd.params6] at hA hval
  obtain ⟨v0, vs0, d0, ds0, p0, q0, hargs, rfl, rfl, h0, r0⟩ := trodAll_cons hA
  obtain ⟨v1, vs1, d1, ds1, p1, q1, rfl, rfl, rfl, h1, r1⟩ := trodAll_cons r0
  obtain ⟨rfl, rfl, rfl⟩ := trodAll_nil r1
  obtain rfl : args = #[v0, v1] := by cases args; simp_all
  obtain ⟨rfl, rfl⟩ := trodVars_none hV
  simp only [List.append_nil, Rows.uptoBulkAll] at hbulk
  obtain ⟨l0, a0, c0, rfl, mc0, rC0, ql0⟩ := open_slice_arg Tryd.underlying28 Go.Proofs.YtipnoeffahnfaaaDoorX.Co.opA28 (hval 0 28 v0 rfl rfl) h0
  have tb0 := rows_bulk Tryd.underlying28 Tryd.underlying29 Tryd.underlying9 (by kernel_rfl) (by kernel_rfl) h0 rfl rC0
  have hlt0 : ∀ x ∈ p0, x.block < W.heap.size := fun x hx => by simpa using hW'.lt x (by simp [hx])
  obtain ⟨x1, rfl, rfl, rfl, w1⟩ := open_int Tryd.underlying3 (hval 1 3 v1 rfl rfl) h1
  have b1 : -9223372036854775808 ≤ x1 ∧ x1 ≤ 9223372036854775807 := by have := w1; simp [Lit.wf, IntKind.min, IntKind.max, IntKind.signed, IntKind.bits] at this; omega
  refine (columns_walk l0 a0 c0 x1 b1 W (celT_of hsh hT) (fun r hr s hs => Nat.le_trans (tb0 r hr s hs) (by omega)) mc0 rC0).mono fun e W' ⟨he, hb⟩ => ?_
  subst he
  exact ⟨_, rfl, _, _, _, [], _, [], hW', trodAll_mk1 (shut_bool Tryd.underlying4 _), (trodAll_cons_mk (Below.trod laidOut (by kernel_rfl) (of_decide_eq_true (by kernel_rfl)) h0 hb hlt0) (trodAll_cons_mk (shut_int Tryd.underlying3 w1) trodAll_mk0)), rfl, hb.frame _, fun h => by cases h⟩
set_option maxRecDepth 100000 in
theorem lifted (os : Os) (started : os.Started) (H : Type) (enc : TypeId × Value → H) (F : Stop.Interp) :
    ReturnsInHanded {} Tryd.checked os 6 .any ((Rows.OpenSpec.upto Rows.cellsColumnsSpec).preRow enc Tryd.prog Tryd.f6 Rows.cellsColumnsUptoRow.domain false Rows.cellsColumnsUptoRow.laid) (((Rows.OpenSpec.upto Rows.cellsColumnsSpec).at F).post enc Tryd.prog Tryd.f6 false true false false) := by
  obtain ⟨places, hx⟩ := reads os enc
  refine returnsInHanded_of_row (C := Tryd.checked) (s := (Rows.OpenSpec.upto Rows.cellsColumnsSpec)) own started (by kernel_rfl) Tryd.func6
    (witness_row_at (enc := enc) (C := Tryd.checked) false (World.laidAll Tryd.prog os Rows.cellsColumnsUptoRow.laid) #[.slice none 0 0, .int .i64 0] (World.laidAll_os _ _ _) (by kernel_rfl) (by kernel_rfl) (by kernel_rfl)
      (OpenSpec.preRow_of_cond 8 hx (by kernel_rfl) (fun k hk => by cases hk; kernel_rfl) (by kernel_rfl) (laid_met os))) ?_
  intro W base args ds gs before hval hW _ hcond hsz hL hsh _
  exact contract H enc W base args ds gs before hval hW hL hsh (of_decide_eq_true (hcond _ rfl)) hsz
theorem said : Rows.CellsColumnsUptoSaid :=
  OpenClaim.holds_of_cond 6 Tryd.f6 rfl rfl rfl rfl rfl rfl rfl ⟨rfl, rfl, rfl, rfl, rfl⟩ rfl rfl rfl rfl rfl (by kernel_rfl) Tryd.func6 (by kernel_rfl)
    (of_decide_eq_true (by kernel_rfl)) (by unfold Func.isWrapper; rw [if_neg (of_decide_eq_false (by kernel_rfl))]; exact ⟨rfl, rfl⟩)
    (fun os started H enc _ F => by rw [OpenClaim.pre_eq_preRow]; exact lifted os started H enc F)
theorem plain (f : FuncId) (fn : Func) (hf : Tryd.pinned.checked.prog.funcNamed "graver/graverlaw25.CellsColumns" = some f) (hfn : Tryd.pinned.checked.prog.funcs[f]? = some fn) :
    false = Tryd.pinned.checked.prog.looks [] ∧ ∀ (j : Nat) t, fn.params[j]? = some t → Tryd.pinned.checked.prog.wantsStandIn t = false := by
  obtain rfl : f = 6 := Option.some.inj ((show Tryd.prog.funcNamed "graver/graverlaw25.CellsColumns" = some 6 by kernel_rfl).symm.trans hf) |>.symm
  obtain rfl : fn = Tryd.f6 := (Option.some.inj (Tryd.func6.symm.trans hfn)).symm
  refine ⟨by kernel_rfl, fun j t ht => ?_⟩
  rw [Tryd.params6] at ht
  have hm : t ∈ [28, 3] := by simpa using Array.mem_of_getElem? ht
  have hall : ([28, 3].all fun u => !Tryd.prog.wantsStandIn u) = true := by kernel_rfl
  exact (show Tryd.prog.wantsStandIn t = false by simpa using List.all_eq_true.1 hall t hm)
theorem holds : Rows.CellsColumnsUptoCardSaid :=
  Claim7.holds_tied_plain_at .later [] _ _ _ _ said (fun _ h => by cases h) (by kernel_rfl) (fun _ h => by cases h) cellsColumnsUpto_row_tie rfl ⟨rfl, rfl⟩ (by kernel_rfl) rfl plain (by kernel_rfl)
#print axioms holds
end Go.Proofs.YtipnoeffahnfaaaDoor.cellsColumnsUpto

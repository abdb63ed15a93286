/- StrtabAgain: for every input the law returns true, and each argument reads behind the call as it read before. Condition: the listed package-level variables start as the program's text lays them (the card ties them). -/
import Derived.Test.YtolgilamchadfaaDoorXAgP03M
import Derived.Test.YtolgilamchadfaaDoorCards
import Derived.Test.YtolgilamchadfaaDoorTie
import Derived.Test.YtolgilamchadfaaDoorXAgOp
import Derived.WalkKit
import Derived.ProofKit
import Derived.OpenShut
import Derived.ShutString
import Derived.SizedLaws
import Derived.Deep.DeepHandedRow
import Derived.Lib.LaidU8
import Derived.MakeChecks
import Derived.Lay
import Derived.SevenTiedAt
namespace Go.Proofs.YtolgilamchadfaaDoor.strtabAgainUpto
open Go.ChangeShapes Go.WideShapes Go.ChangeAt Go.RowKit
open Go.ChangeMaps (open_string shut_string)
set_option linter.unusedVariables false
set_option linter.unusedSimpArgs false
theorem laidOut : laidOutB Tryd.prog = true := by kernel_rfl
theorem own : ownKnob Tryd.prog.godebug = none := by kernel_rfl
theorem laid_met (os : Os) : laidMetH Tryd.prog Rows.strtabAgainUptoRow.laid ((World.laidAll Tryd.prog os Rows.strtabAgainUptoRow.laid).forCall (fun _ _ => 0) ⟨#[], #[.slice none 0 0, .string ByteArray.empty], []⟩).memory := by
  rw [MakeChecks.laidMetH_plain _ _ _ (by kernel_rfl)]; exact laidMet_laidAll _ (by kernel_rfl) (by kernel_rfl)
theorem reads (os : Os) {H : Type} (enc : TypeId × Value → H) : ∃ places, DataW.whole enc Tryd.prog ((World.laidAll Tryd.prog os Rows.strtabAgainUptoRow.laid).forCall (fun _ _ => 0) ⟨#[], #[.slice none 0 0, .string ByteArray.empty], []⟩).memory Tryd.f3.params.toList Rows.strtabAgainSpec.vars false #[(.slice none 0 0 : Value), (.string ByteArray.empty : Value)].toList 8 = some ([.nil, .lit (.string [])], [], places) := ⟨[], by kernel_rfl⟩
theorem strings_bulk {H : Type} {enc : TypeId × Value → H} {W : World} {sp : Nat → Bool} {held : Bool} {t e : TypeId} {v : Value} {D : DataW H} {ps : List MemPlace} (ht : Tryd.prog.underlying t = some (.slice e)) (he : Tryd.prog.underlying e = some .string) (hc : Tryd.prog.cellsOf e = 1)
    (h : DataW.Trod enc Tryd.prog W 0 sp held t v D ps) {l : List ByteArray} {a : Option Addr} {c : Nat} (hv : v = .slice a l.length c) (hC : Go.Proofs.YtolgilamchadfaaDoorW.PrintWords.Kd.C Go.Proofs.YtolgilamchadfaaDoorW.PrintWords.Kd.string W a l.length l) : (l.map (fun s => s.size + 1)).sum ≤ Rows.uptoBulk D := by
  subst hv
  obtain ⟨fuel, hf⟩ := h
  rcases DataW.trod_slice ht hf with ⟨h1, _⟩ | ⟨ad, len, cap, elems, rest, n, _, h1, hx, _, _, _, h5, h6, _⟩
  · have e1 : a = none ∧ l = [] ∧ c = 0 := by simpa [Value.cells] using h1
    obtain ⟨_, rfl, _⟩ := e1
    simp
  · have e1 : a = some ad ∧ l.length = len ∧ c = cap := by simpa [Value.cells] using h1
    obtain ⟨rfl, rfl, rfl⟩ := e1
    have hD : D = .slice (elems.map (·.1)) (rest.map (·.1)) := congrArg Prod.fst hx
    have hel : elems.map (·.1) = l.map (fun s => DataW.lit (.string s.data.toList)) := by
      refine List.ext_getElem (by rw [List.length_map, List.length_map, h5]) (fun i hi1 hi2 => ?_)
      rw [List.length_map] at hi2
      have h8 := h6 i hi2
      rw [List.getElem?_eq_getElem (by omega), hc] at h8
      obtain ⟨cs, hcs, hy⟩ := Option.bind_eq_some_iff.1 h8
      obtain ⟨s, rfl, hy2, _⟩ := DataW.trod_string he hy
      rw [List.getElem_map, List.getElem_map, hy2]
      obtain ⟨ad2, he2, hc2⟩ := hC.2.2 (by omega)
      obtain rfl := Option.some.inj he2
      obtain ⟨c2, _, hk2, hcell⟩ := hc2 i _ (List.getElem?_eq_getElem hi2)
      have hk3 : c2 = [.string l[i]] := hk2
      subst hk3
      have g1 := hcell 0 _ rfl
      unfold World.cells? at hcs
      rw [if_pos (Nat.zero_le _)] at hcs
      have g2 := (mapM_range_get hcs).2 0 _ rfl
      rw [Go.Deep.add_add] at g2
      rw [show Go.Proofs.YtolgilamchadfaaDoorW.PrintWords.Kd.string.sz = 1 from rfl] at g1
      rw [g1] at g2
      injection g2 with g2
      injection g2 with g2
      rw [g2]
    have hsum : ∀ l : List ByteArray, Rows.uptoBulkAll (H := H) (l.map (fun s => DataW.lit (.string s.data.toList))) = (l.map (fun s => s.size + 1)).sum := by
      intro l
      induction l with
      | nil => simp [Rows.uptoBulkAll]
      | cons x r ih =>
        rw [List.map_cons, List.map_cons, List.sum_cons, ← ih]
        simp only [Rows.uptoBulkAll, Rows.uptoBulk]
        rw [Array.length_toList]; rfl
    rw [hD, ← hsum, ← hel]
    simp only [Rows.uptoBulk]
    omega
set_option maxRecDepth 100000 in
theorem contract (H : Type) (enc : TypeId × Value → H) (W : World) (base : Nat) (args : Array Value) (ds gs : List (DataW H)) (before : List MemPlace)
    (hval : ∀ (j : Nat) t v, Tryd.f3.params[j]? = some t → args[j]? = some v → Value.okWide Tryd.prog W .any base t v)
    (hW : DataW.Whole enc Tryd.prog Tryd.f3.params.toList Rows.strtabAgainSpec.vars false W args.toList ds gs before) (hL : laidMetH Tryd.prog Rows.strtabAgainUptoRow.laid W) (hsh : W.ShapedOpen Tryd.prog)
    (hbulk : Rows.uptoBulkAll (ds ++ gs) ≤ 1048576)
    (hsz : (DataW.weightsEach Tryd.prog (Tryd.f3.params.toList ++ Rows.strtabAgainSpec.plain.varTypes Tryd.prog) (ds ++ gs)).all (· ≤ reachBytes) = true) :
    Calls Tryd.prog 3 args W fun e W' => ∃ v, e = .returned v ∧ Rows.strtabAgainSpec.post enc Tryd.prog Tryd.f3 false true false false W args v W' := by
  have hW' := hW
  obtain ⟨p, q, hA0, hV, rfl, hfz, hnd⟩ := hW
  have hA : DataW.TrodAll enc Tryd.prog W 0 (fun _ => true) true Tryd.f3.params.toList args.toList ds p := hA0
  rw [Tryd.params3] at hA hval
  obtain ⟨v0, vs0, d0, ds0, p0, q0, hargs, rfl, rfl, h0, r0⟩ := trodAll_cons hA
  obtain ⟨v1, vs1, d1, ds1, p1, q1, rfl, rfl, rfl, h1, r1⟩ := trodAll_cons r0
  obtain ⟨rfl, rfl, rfl⟩ := trodAll_nil r1
  obtain rfl : args = #[v0, v1] := by cases args; simp_all
  obtain ⟨rfl, rfl⟩ := trodVars_none hV
  simp only [List.append_nil, Rows.uptoBulkAll] at hbulk
  obtain ⟨l0, a0, c0, rfl, mc0, rC0, ql0⟩ := open_slice_arg Tryd.underlying22 Go.Proofs.YtolgilamchadfaaDoorX.Ag.opA22 (hval 0 22 v0 rfl rfl) h0
  have tb0 := strings_bulk Tryd.underlying22 Tryd.underlying9 (by kernel_rfl) h0 rfl rC0
  have hlt0 : ∀ x ∈ p0, x.block < W.heap.size := fun x hx => by simpa using hW'.lt x (by simp [hx])
  obtain ⟨s1, rfl, rfl, rfl, y1⟩ := open_string Tryd.underlying9 (hval 1 9 v1 rfl rfl) h1
  obtain ⟨l1, rfl⟩ : ∃ l : List UInt8, s1 = ⟨l.toArray⟩ := ⟨s1.data.toList, by cases s1; simp⟩
  have z1 : l1.length ≤ 140737488351232 := by
    have z := sized_string hsz (j := 1) (t := 9) rfl rfl
    have z' : l1.length ≤ reachBytes := by simpa using z
    exact z'
  refine (again_walk l0 a0 c0 ⟨l1.toArray⟩ W hsh (Nat.le_trans tb0 (by omega)) mc0 rC0).mono fun e W' ⟨he, hb⟩ => ?_
  subst he
  exact ⟨_, rfl, _, _, _, [], _, [], hW', trodAll_mk1 (shut_bool Tryd.underlying4 _), (trodAll_cons_mk (Below.trod laidOut (by kernel_rfl) (of_decide_eq_true (by kernel_rfl)) h0 hb hlt0) (trodAll_cons_mk (shut_string Tryd.underlying9 y1) trodAll_mk0)), rfl, hb.frame _, fun h => by cases h⟩
set_option maxRecDepth 100000 in
theorem lifted (os : Os) (started : os.Started) (H : Type) (enc : TypeId × Value → H) (F : Stop.Interp) :
    ReturnsInHanded {} Tryd.checked os 3 .any ((Rows.OpenSpec.upto Rows.strtabAgainSpec).preRow enc Tryd.prog Tryd.f3 Rows.strtabAgainUptoRow.domain false Rows.strtabAgainUptoRow.laid) (((Rows.OpenSpec.upto Rows.strtabAgainSpec).at F).post enc Tryd.prog Tryd.f3 false true false false) := by
  obtain ⟨places, hx⟩ := reads os enc
  refine returnsInHanded_of_row (C := Tryd.checked) (s := (Rows.OpenSpec.upto Rows.strtabAgainSpec)) own started (by kernel_rfl) Tryd.func3
    (witness_row_at (enc := enc) (C := Tryd.checked) false (World.laidAll Tryd.prog os Rows.strtabAgainUptoRow.laid) #[.slice none 0 0, .string ByteArray.empty] (World.laidAll_os _ _ _) (by kernel_rfl) (by kernel_rfl) (by kernel_rfl)
      (OpenSpec.preRow_of_cond 8 hx (by kernel_rfl) (fun k hk => by cases hk; kernel_rfl) (by kernel_rfl) (laid_met os))) ?_
  intro W base args ds gs before hval hW _ hcond hsz hL hsh _
  exact contract H enc W base args ds gs before hval hW hL hsh (of_decide_eq_true (hcond _ rfl)) hsz
theorem said : Rows.StrtabAgainUptoSaid :=
  OpenClaim.holds_of_cond 3 Tryd.f3 rfl rfl rfl rfl rfl rfl rfl ⟨rfl, rfl, rfl, rfl, rfl⟩ rfl rfl rfl rfl rfl (by kernel_rfl) Tryd.func3 (by kernel_rfl)
    (of_decide_eq_true (by kernel_rfl)) (by unfold Func.isWrapper; rw [if_neg (of_decide_eq_false (by kernel_rfl))]; exact ⟨rfl, rfl⟩)
    (fun os started H enc _ F => by rw [OpenClaim.pre_eq_preRow]; exact lifted os started H enc F)
theorem plain (f : FuncId) (fn : Func) (hf : Tryd.pinned.checked.prog.funcNamed "graver/graverlaw03.StrtabAgain" = some f) (hfn : Tryd.pinned.checked.prog.funcs[f]? = some fn) :
    false = Tryd.pinned.checked.prog.looks [] ∧ ∀ (j : Nat) t, fn.params[j]? = some t → Tryd.pinned.checked.prog.wantsStandIn t = false := by
  obtain rfl : f = 3 := Option.some.inj ((show Tryd.prog.funcNamed "graver/graverlaw03.StrtabAgain" = some 3 by kernel_rfl).symm.trans hf) |>.symm
  obtain rfl : fn = Tryd.f3 := (Option.some.inj (Tryd.func3.symm.trans hfn)).symm
  refine ⟨by kernel_rfl, fun j t ht => ?_⟩
  rw [Tryd.params3] at ht
  have hm : t ∈ [22, 9] := by simpa using Array.mem_of_getElem? ht
  have hall : ([22, 9].all fun u => !Tryd.prog.wantsStandIn u) = true := by kernel_rfl
  exact (show Tryd.prog.wantsStandIn t = false by simpa using List.all_eq_true.1 hall t hm)
theorem holds : Rows.StrtabAgainUptoCardSaid :=
  Claim7.holds_tied_plain_at .later [] _ _ _ _ said (fun _ h => by cases h) (by kernel_rfl) (fun _ h => by cases h) strtabAgainUpto_row_tie rfl ⟨rfl, rfl⟩ (by kernel_rfl) rfl plain (by kernel_rfl)
#print axioms holds
end Go.Proofs.YtolgilamchadfaaDoor.strtabAgainUpto

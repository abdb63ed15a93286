/- Contracts over this translation: arlist.Delete. -/
import Derived.Test.YtienjagoplcimaaArlD
namespace Go.Proofs.Ytienjagoplcimaa
set_option linter.unusedVariables false
set_option linter.unusedSimpArgs false
open Go.RowKit Go.Proofs.YtienjagoplcimaaW.PrintWords

/-- Members deleted by their names, one behind the other. -/
def delR : List MemD → List ByteArray → Option (List MemD)
  | l, [] => some l
  | l, s :: r => match findN l s with
    | none => none
    | some i => delR (l.eraseIdx i) r
def deleteR (l : List MemD) (names : List ByteArray) : List MemD × Int := match delR l names with
  | some x => (x, 0)
  | none => ([], 21)
theorem delR_drop_none {x : List MemD} {names : List ByteArray} {k : Nat} (hk : k < names.length) (h : findN x names[k] = none) : delR x (names.drop k) = none := by
  rw [List.drop_eq_getElem_cons hk]; unfold delR; rw [h]
theorem delR_drop_some {x : List MemD} {names : List ByteArray} {k i : Nat} (hk : k < names.length) (h : findN x names[k] = some i) : delR x (names.drop k) = delR (x.eraseIdx i) (names.drop (k + 1)) := by
  rw [List.drop_eq_getElem_cons hk]; conv => lhs; unfold delR
  rw [h]
theorem own_below {w w' : World} {B e size n : Nat} {v : Value} {xs : List Value} (h : w.ownsRow B e size v n xs) (hb : Below w.heap.size w w') : w'.ownsRow B e size v n xs := by
  rcases h with ⟨hl, ⟨hv, hn⟩ | ⟨g, cap, cur, hv, hg, hh, rest⟩⟩
  · exact ⟨hl, .inl ⟨hv, hn⟩⟩
  · exact ⟨hl, .inr ⟨g, cap, cur, hv, hg, by rw [hb.block _ (Array.getElem?_eq_some_iff.1 hh).1]; exact hh, rest⟩⟩
set_option maxHeartbeats 600000 in
set_option maxRecDepth 100000 in
theorem delete_m (l : List MemD) (hl : l.length ≤ 1000000) (names : List ByteArray) (hn : names.length ≤ 1000000) (a : Option Addr) (c : Nat) (an : Option Addr) (cn : Nat) (w : World) (hr : Rd w a (l.flatMap encM)) (hrn : Rd w an (names.map Value.string)) :
    Calls Try.prog 10 #[.slice a l.length c, .slice an names.length cn] w fun e w' => (∃ v, e = .returned (.tuple #[v, .int .i64 (deleteR l names).2]) ∧ w'.ownsRow w.heap.size 28 6 v (deleteR l names).1.length ((deleteR l names).1.flatMap encM)) ∧ Below w.heap.size w w' := by
  have HR := Lib.hid hr
  have HN := Lib.hid hrn
  clear hr hrn
  go_enter Try.func10, Try.ntmps10
  go_wp2_with (first
    | (go_at_call 20; refine (clone_m l hl _ c _ HR.out).mono ?_; rintro e w1 ⟨⟨v, rfl, ho⟩, hb1⟩; have HO1 := Lib.hid ho; have HB1 := Lib.hid hb1; clear ho hb1))
  obtain ⟨va0, vc0, hva0⟩ : ∃ va vc, v = .slice va l.length vc := own_slice HO1.out
  subst hva0
  go_loopw [6, 14] (fun v i wr => ∃ (k : Nat) (x : List MemD), k ≤ names.length ∧ i = .int .i64 k ∧ (∃ va vc, v = .slice va x.length vc) ∧ x.length ≤ l.length ∧ Hid (delR l names = delR x (names.drop k)) ∧ Hid (wr.ownsRow w.heap.size 28 6 v x.length (x.flatMap encM)) ∧ Hid (Below w.heap.size w wr)) (fun v i _ => names.length - (intOf i).toNat)
  case atStart => exact ⟨0, l, Nat.zero_le _, rfl, ⟨_, _, rfl⟩, Nat.le_refl _, Lib.hid (by rw [List.drop_zero]), HO1, HB1⟩
  case round =>
    obtain ⟨k, x, hk, rfl, ⟨va, vc, rfl⟩, hxl, HD, HO, HB⟩ := hrel
    by_cases hlt : k < names.length
    · obtain ⟨s, hs⟩ : ∃ s, s = names[k] := ⟨_, rfl⟩
      have hx1 : x.length ≤ 1000000 := by omega
      have hxr : Rd wr va (x.flatMap encM) := Rd.of_own HO.out
      obtain ⟨b0, o0, hbo, hcl⟩ := (HN.out.below HB.out).at (by rw [List.length_map]; omega)
      subst hbo
      have q0 := hcl k (.string s) (by rw [List.getElem?_map, List.getElem?_eq_getElem hlt, hs]; rfl)
      have HXR := Lib.hid hxr
      clear hcl hxr
      cases hf : findN x s with
      | none =>
        have h1 : findI x s = -1 := by unfold findI; rw [hf]
        have hR : deleteR l names = ([], 21) := by unfold deleteR; rw [HD.out, delR_drop_none hlt (by rw [← hs]; exact hf)]
        have HRR := Lib.hid hR
        clear hR
        have HS := Lib.hid hs
        clear hs
        go_wp2_with (first
          | (go_at_call 21; refine (find_m x hx1 s va vc _ HXR.out).mono ?_; rw [h1]; rintro e w2 ⟨rfl, hb2⟩; have HB2 := Lib.hid (HB.out.trans (hb2.mono HB.out.size)); clear hb2))
        go_ret2
        rw [HRR.out]
        exact ⟨⟨_, rfl, World.ownsRow_nil _ _ _ _⟩, HB2.out⟩
      | some i =>
        have hix := findN_lt hf
        have h1 : findI x s = (i : Int) := by unfold findI; rw [hf]
        have hi0 : ¬ ((i : Int) < 0) := by omega
        have HD2 := Lib.hid (HD.out.trans (delR_drop_some hlt (by rw [← hs]; exact hf)))
        have HE := Lib.hid (List.length_eraseIdx_of_lt hix)
        have hsm := owns_some HO.out (by omega)
        obtain ⟨g, c2, hvg, hg1, hg2, hc2⟩ := hsm
        injection hvg with hva _ hvc
        subst hva; subst hvc
        have HG1 := Lib.hid hg1
        clear hg2 hc2 hg1 hs
        go_wp2_with (first
          | (go_at_call 21; refine (find_m x hx1 s _ vc _ HXR.out).mono ?_; rw [h1]; rintro e w2 ⟨rfl, hb2⟩; have HO2 := Lib.hid (own_below HO.out hb2); have HB2 := Lib.hid (HB.out.trans (hb2.mono HB.out.size)); clear hb2)
          | (go_at_call 23; refine (sdel_m x i hix hx1 g vc w.heap.size _ HB2.out.size HO2.out).mono ?_; rintro e w3 ⟨rfl, ho3, hg3⟩; have HO3 := Lib.hid ho3; have HB3 := Lib.hid (HB2.out.grown hg3 HB2.out.size (fun k hk => by cases hk; exact HG1.out)); clear ho3 hg3))
        refine ⟨⟨k + 1, x.eraseIdx i, by omega, by go_num, ⟨_, _, by rw [HE.out]⟩, by rw [HE.out]; omega, HD2, by rw [HE.out]; exact HO3, HB3⟩, by simp [intOf]; omega⟩
    · obtain rfl : k = names.length := by omega
      have hR : deleteR l names = (x, 0) := by unfold deleteR; rw [HD.out, List.drop_length]; rfl
      have HRR := Lib.hid hR
      clear hR
      go_wp2
      go_ret2
      rw [HRR.out]
      exact ⟨⟨_, rfl, HO.out⟩, HB.out⟩
end Go.Proofs.Ytienjagoplcimaa

/- Contracts over this translation: what strtab's Build and hidden hand to slices.ContainsFunc, and the calls of it. -/
import Derived.Test.YtolgilamchadfaaDoorBuilder2
import Derived.WalkSpells
namespace Go.Proofs.YtolgilamchadfaaDoor
set_option linter.unusedVariables false
set_option linter.unusedSimpArgs false
open Go.RowKit

/-- A text has a byte 0. -/
def darkB (s : ByteArray) : Bool := decide (0 ≤ Lib.indexByte s.data.toList 0)
theorem dark1_m (s : ByteArray) (w : World) : Calls Tryd.prog 12 #[.string s] w fun e w' => e = .returned (.bool (darkB s)) ∧ w' = w := by
  go_enter Tryd.func12, Tryd.ntmps12
  go_wp2_with (first | (go_at_call 13; refine (Tryd.strings_Contains_one s 0 _).mono ?_; rintro e w1 ⟨rfl, rfl⟩))
  go_ret
  exact ⟨rfl, rfl⟩
/-- A text is another one of which a name is the end. -/
def hidB (nm s : ByteArray) : Bool := !(s.toList == nm.toList) && Lib.hasSuffix s.data.toList nm.data.toList
theorem hid1_m (nm s : ByteArray) (hs : s.size ≤ 9223372036854775807) (p : Addr) (w : World) (hp : w.cell? p = some (.string nm)) :
    Calls Tryd.prog 27 #[.string s, .pointer (some p)] w fun e w' => e = .returned (.bool (hidB nm s)) ∧ w' = w := by
  have HP := Lib.hid hp
  obtain ⟨t, ht⟩ : ∃ t, t = (s.toList == nm.toList) := ⟨_, rfl⟩
  unfold hidB
  rw [← ht]
  have HT := ht.symm
  clear ht
  go_enter Tryd.func27, Tryd.ntmps27
  cases t
  · go_wp2_with (first | (go_at_call 23; refine (Tryd.strings_HasSuffix s nm _ hs).mono ?_; rintro e w1 ⟨rfl, rfl⟩))
    go_ret
    exact ⟨by simp, rfl⟩
  · go_wp2
    go_ret
    exact ⟨by simp, rfl⟩
set_option maxHeartbeats 1000000 in
theorem indexFunc_dark (l : List ByteArray) (hl : l.length ≤ 1000000) (a : Option Addr) (c : Nat) (w : World) (hr : Rd w a (l.map Value.string)) :
    Calls Tryd.prog 24 #[.slice a l.length c, .func (.func 12) #[] #[]] w fun e w' => (∃ i : Int, e = .returned (.int .i64 i) ∧ decide (0 ≤ i) = l.any darkB) ∧ w' = w := by
  have HR := Lib.hid hr
  clear hr
  go_enter Tryd.func24, Tryd.ntmps24
  go_wp2
  go_loopw [8] (fun i wr => ∃ k : Nat, k ≤ l.length ∧ i = .int .i64 k ∧ Hid (∀ j (hj : j < l.length), j < k → darkB l[j] = false) ∧ wr = w) (fun i _ => l.length - (intOf i).toNat)
  case atStart => exact ⟨0, Nat.zero_le _, rfl, Lib.hid (fun j _ h => absurd h (by omega)), rfl⟩
  case round =>
    obtain ⟨k, hk, rfl, HN, rfl⟩ := hrel
    by_cases hlt : k < l.length
    · obtain ⟨m, hm⟩ : ∃ m, m = l[k] := ⟨_, rfl⟩
      obtain ⟨b0, o0, hbo, hcl⟩ := HR.out.at (by rw [List.length_map]; omega)
      subst hbo
      have q0 := hcl k (.string m) (by rw [List.getElem?_map, List.getElem?_eq_getElem hlt, hm]; rfl)
      have HM := Lib.hid hm
      have HF := Lib.hid (dark1_m m wr)
      clear hcl hm
      obtain ⟨t, ht⟩ : ∃ t, t = darkB m := ⟨_, rfl⟩
      rw [← ht] at HF
      have HT := Lib.hid ht
      clear ht
      cases t
      · go_wp2_with (first | (go_at_call 12; refine HF.out.mono ?_; rintro e w1 ⟨rfl, rfl⟩))
        refine ⟨⟨k + 1, by omega, by go_num, Lib.hid ?_, by trivial⟩, by simp [intOf]; omega⟩
        intro j hj h
        rcases Nat.lt_or_ge j k with h2 | h2
        · exact HN.out j hj h2
        · obtain rfl : j = k := by omega
          rw [← HM.out]; exact HT.out.symm
      · go_wp2_with (first | (go_at_call 12; refine HF.out.mono ?_; rintro e w1 ⟨rfl, rfl⟩))
        go_ret
        refine ⟨⟨_, rfl, ?_⟩, rfl⟩
        rw [decide_eq_true (by omega)]
        symm
        rw [List.any_eq_true]
        exact ⟨l[k], List.getElem_mem hlt, by rw [← HM.out]; exact HT.out.symm⟩
    · obtain rfl : k = l.length := by omega
      go_wp2
      go_ret
      refine ⟨⟨_, rfl, ?_⟩, rfl⟩
      rw [decide_eq_false (by omega)]
      symm
      rw [List.any_eq_false]
      intro x hx
      obtain ⟨j, hj, rfl⟩ := List.mem_iff_getElem.1 hx
      rw [HN.out j hj hj]; decide
theorem containsFunc_dark (l : List ByteArray) (hl : l.length ≤ 1000000) (a : Option Addr) (c : Nat) (w : World) (hr : Rd w a (l.map Value.string)) :
    Calls Tryd.prog 11 #[.slice a l.length c, .func (.func 12) #[] #[]] w fun e w' => e = .returned (.bool (l.any darkB)) ∧ w' = w := by
  have HF := Lib.hid (indexFunc_dark l hl a c w hr)
  clear hr
  go_enter Tryd.func11, Tryd.ntmps11
  go_wp2_with (first | (go_at_call 24; refine HF.out.mono ?_; rintro e w1 ⟨⟨i, rfl, hi⟩, rfl⟩; have HI := Lib.hid hi; clear hi))
  go_ret
  exact ⟨by rw [HI.out]; rfl, rfl⟩
set_option maxHeartbeats 1000000 in
theorem indexFunc_hid (l : List ByteArray) (hl : l.length ≤ 1000000) (hs : ∀ s ∈ l, s.size ≤ 9223372036854775807) (nm : ByteArray) (p : Addr) (a : Option Addr) (c : Nat) (w : World) (hr : Rd w a (l.map Value.string)) (hp : w.cell? p = some (.string nm)) :
    Calls Tryd.prog 24 #[.slice a l.length c, .func (.func 27) #[] #[.pointer (some p)]] w fun e w' => (∃ i : Int, e = .returned (.int .i64 i) ∧ decide (0 ≤ i) = l.any (hidB nm)) ∧ w' = w := by
  have HR := Lib.hid hr
  clear hr
  have HP := Lib.hid hp
  clear hp
  go_enter Tryd.func24, Tryd.ntmps24
  go_wp2
  go_loopw [8] (fun i wr => ∃ k : Nat, k ≤ l.length ∧ i = .int .i64 k ∧ Hid (∀ j (hj : j < l.length), j < k → (hidB nm) l[j] = false) ∧ wr = w) (fun i _ => l.length - (intOf i).toNat)
  case atStart => exact ⟨0, Nat.zero_le _, rfl, Lib.hid (fun j _ h => absurd h (by omega)), rfl⟩
  case round =>
    obtain ⟨k, hk, rfl, HN, rfl⟩ := hrel
    by_cases hlt : k < l.length
    · obtain ⟨m, hm⟩ : ∃ m, m = l[k] := ⟨_, rfl⟩
      obtain ⟨b0, o0, hbo, hcl⟩ := HR.out.at (by rw [List.length_map]; omega)
      subst hbo
      have q0 := hcl k (.string m) (by rw [List.getElem?_map, List.getElem?_eq_getElem hlt, hm]; rfl)
      have HM := Lib.hid hm
      have HF := Lib.hid (hid1_m nm m (hs m (by rw [hm]; exact List.getElem_mem hlt)) p wr HP.out)
      clear hcl hm
      obtain ⟨t, ht⟩ : ∃ t, t = (hidB nm) m := ⟨_, rfl⟩
      rw [← ht] at HF
      have HT := Lib.hid ht
      clear ht
      cases t
      · go_wp2_with (first | (go_at_call 27; refine HF.out.mono ?_; rintro e w1 ⟨rfl, rfl⟩))
        refine ⟨⟨k + 1, by omega, by go_num, Lib.hid ?_, by trivial⟩, by simp [intOf]; omega⟩
        intro j hj h
        rcases Nat.lt_or_ge j k with h2 | h2
        · exact HN.out j hj h2
        · obtain rfl : j = k := by omega
          rw [← HM.out]; exact HT.out.symm
      · go_wp2_with (first | (go_at_call 27; refine HF.out.mono ?_; rintro e w1 ⟨rfl, rfl⟩))
        go_ret
        refine ⟨⟨_, rfl, ?_⟩, rfl⟩
        rw [decide_eq_true (by omega)]
        symm
        rw [List.any_eq_true]
        exact ⟨l[k], List.getElem_mem hlt, by rw [← HM.out]; exact HT.out.symm⟩
    · obtain rfl : k = l.length := by omega
      go_wp2
      go_ret
      refine ⟨⟨_, rfl, ?_⟩, rfl⟩
      rw [decide_eq_false (by omega)]
      symm
      rw [List.any_eq_false]
      intro x hx
      obtain ⟨j, hj, rfl⟩ := List.mem_iff_getElem.1 hx
      rw [HN.out j hj hj]; decide
theorem containsFunc_hid (l : List ByteArray) (hl : l.length ≤ 1000000) (hs : ∀ s ∈ l, s.size ≤ 9223372036854775807) (nm : ByteArray) (p : Addr) (a : Option Addr) (c : Nat) (w : World) (hr : Rd w a (l.map Value.string)) (hp : w.cell? p = some (.string nm)) :
    Calls Tryd.prog 11 #[.slice a l.length c, .func (.func 27) #[] #[.pointer (some p)]] w fun e w' => e = .returned (.bool (l.any (hidB nm))) ∧ w' = w := by
  have HF := Lib.hid (indexFunc_hid l hl hs nm p a c w hr hp)
  clear hr hp
  go_enter Tryd.func11, Tryd.ntmps11
  go_wp2_with (first | (go_at_call 24; refine HF.out.mono ?_; rintro e w1 ⟨⟨i, rfl, hi⟩, rfl⟩; have HI := Lib.hid hi; clear hi))
  go_ret
  exact ⟨by rw [HI.out]; rfl, rfl⟩
theorem hidden_m (nm : ByteArray) (l : List ByteArray) (hl : l.length ≤ 1000000) (hs : ∀ s ∈ l, s.size ≤ 9223372036854775807) (a : Option Addr) (c : Nat) (w : World) (hr : Rd w a (l.map Value.string)) :
    Calls Tryd.prog 16 #[.string nm, .slice a l.length c] w fun e w' => e = .returned (.bool (l.any (hidB nm))) ∧ w' = w.alloc (.cells #[.string nm] 9) := by
  have HR := Lib.hid (hr.alloc (.cells #[.string nm] 9))
  clear hr
  have hmf : ∀ (fn : Fn) (first cap : Array Value) (w : World), (Instr.makeFunc fn first cap).run Tryd.prog w = .ok (.func fn first cap) w := fun _ _ _ _ => rfl
  go_enter Tryd.func16, Tryd.ntmps16
  go_wp2_with (first | (go_at_call 11; refine (containsFunc_hid l hl hs nm ⟨w.heap.size, 0, none⟩ a c _ HR.out (by rw [World.cell?_alloc_new]; rfl)).mono ?_; rintro e w1 ⟨rfl, rfl⟩))
  go_ret
  exact ⟨rfl, rfl⟩
end Go.Proofs.YtolgilamchadfaaDoor

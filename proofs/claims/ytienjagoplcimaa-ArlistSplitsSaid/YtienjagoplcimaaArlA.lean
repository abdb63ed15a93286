/- Contracts over this translation: slices.Clone of members, arlist.find. -/
import Derived.Test.YtienjagoplcimaaBridge
import Derived.Test.YtienjagoplcimaaProg
import Derived.Outline
import Derived.Laws.AppendOwnNone
import Derived.WalkSpells
namespace Go.Proofs.Ytienjagoplcimaa
set_option linter.unusedVariables false
set_option linter.unusedSimpArgs false
open Go.RowKit

/-- A member: its name, four numbers, its bytes. -/
structure MemD where
  n : ByteArray
  a : Int
  b : Int
  c : Int
  d : Int
  s : ByteArray
def encM (m : MemD) : List Value := [.string m.n, .int .u64 m.a, .int .u64 m.b, .int .u64 m.c, .int .u64 m.d, .string m.s]
theorem encM_length (m : MemD) : (encM m).length = 6 := rfl
theorem encM_one (l : List MemD) : ∀ u ∈ l.flatMap encM, u.oneCell' = true := by
  intro u hu
  obtain ⟨m, _, hm⟩ := List.mem_flatMap.1 hu
  simp [encM] at hm
  rcases hm with rfl | rfl | rfl | rfl | rfl | rfl <;> rfl
theorem Try.infoMem : (Try.prog.info? 28).map (fun i => (i.zero, i.size, i.bytes)) = some (some (.agg #[.string ⟨#[]⟩, .int .u64 0, .int .u64 0, .int .u64 0, .int .u64 0, .string ⟨#[]⟩]), 6, 64) := by kernel_rfl

set_option maxHeartbeats 1000000 in
theorem clone_m (l : List MemD) (hl : l.length ≤ 1000000) (a : Option Addr) (c : Nat) (w : World) (hr : Rd w a (l.flatMap encM)) :
    Calls Try.prog 20 #[.slice a l.length c] w fun e w' => (∃ v, e = .returned v ∧ w'.ownsRow w.heap.size 28 6 v l.length (l.flatMap encM)) ∧ Below w.heap.size w w' := by
  obtain ⟨i0, hi, hz0, hz1, hz2⟩ := info_parts Try.infoMem
  cases a with
  | none =>
    have hsl := fun (W : World) => Lib.run_eql_slice_nil (P := Try.prog) W 24 28 none 0 c 0 0 Try.underlying24
    have h0 := hr.none_nil
    have hl0 : l = [] := by
      cases l with
      | nil => rfl
      | cons x r => simp [encM] at h0
    subst hl0
    go_enter Try.func20, Try.ntmps20
    go_wp2
    go_ret
    exact ⟨⟨_, rfl, World.ownsRow_nil _ _ _ _⟩, Below.refl _ _⟩
  | some ad =>
    have HR := Lib.hid hr
    clear hr
    have hsl := fun (W : World) => Lib.run_eql_slice_nil (P := Try.prog) W 24 28 (some ad) l.length c 0 0 Try.underlying24
    have HO := Lib.hid (show (w.alloc (.cells #[] 28)).ownsRow w.heap.size 28 6 (.slice (some ⟨w.heap.size, 0, none⟩) 0 0) 0 [] from World.ownsRow_lit w #[] 0 (Nat.le_refl _) (by decide) rfl)
    have HL := Lib.hid (flat_length encM 6 encM_length l)
    go_enter Try.func20, Try.ntmps20
    go_wp2_with (first
      | (at_builtin; refine wpList_append_own _ rfl _ _ 24 rfl w.heap.size 28 i0 (.agg #[.string ⟨#[]⟩, .int .u64 0, .int .u64 0, .int .u64 0, .int .u64 0, .string ⟨#[]⟩]) 6 64 Try.underlying24 hi hz0 hz1 hz2 rfl (by decide) _ _ _ rfl HO.out ad l.length c (l.flatMap encM) rfl HL.out ?c1 ?c2 ?c3 ?c4 ?c5 ?_))
    case c1 => exact (HR.out.alloc _).news
    case c2 => exact encM_one l
    case c3 => unfold maxLen; omega
    case c4 => omega
    case c5 => simp
    intro v' w1 hown hgrow _
    obtain ⟨va, vc, rfl⟩ := own_slice hown
    have HOW := Lib.hid hown
    have HG := Lib.hid (show Below w.heap.size w w1 from ((Below.refl _ _).alloc (Nat.le_refl _) _).grown hgrow (by simp) (fun k hk => by simp [Value.ownBlock] at hk; omega))
    clear hown hgrow
    go_wp2
    go_ret
    exact ⟨⟨_, rfl, by simpa using HOW.out⟩, HG.out⟩
/-- The first member of a name. -/
def findN (l : List MemD) (nm : ByteArray) : Option Nat := l.findIdx? (fun m => m.n.toList == nm.toList)
def findI (l : List MemD) (nm : ByteArray) : Int := match findN l nm with
  | some i => (i : Int)
  | none => -1
theorem find1_m (m : MemD) (nm : ByteArray) (p : Addr) (w : World) (hp : w.cell? p = some (.string nm)) :
    Calls Try.prog 34 #[.agg #[.string m.n, .int .u64 m.a, .int .u64 m.b, .int .u64 m.c, .int .u64 m.d, .string m.s], .pointer (some p)] w fun e w' => e = .returned (.bool (m.n.toList == nm.toList)) ∧ Below w.heap.size w w' := by
  have hlt := cell_lt hp
  have hp2 : ∀ o, (w.alloc o).cell? p = some (.string nm) := fun o => by
    have := ((Below.refl w.heap.size w).alloc (Nat.le_refl _) o).cell (p := p) hlt
    rw [this]; exact hp
  go_enter Try.func34, Try.ntmps34
  go_wp2
  go_ret
  exact ⟨rfl, (Below.refl _ _).alloc (Nat.le_refl _) _⟩
set_option maxHeartbeats 1000000 in
theorem indexFunc_find (l : List MemD) (hl : l.length ≤ 1000000) (nm : ByteArray) (p : Addr) (a : Option Addr) (c : Nat) (w : World) (hr : Rd w a (l.flatMap encM)) (hp : w.cell? p = some (.string nm)) :
    Calls Try.prog 33 #[.slice a l.length c, .func (.func 34) #[] #[.pointer (some p)]] w fun e w' => e = .returned (.int .i64 (findI l nm)) ∧ Below w.heap.size w w' := by
  have HR := Lib.hid hr
  have HP := Lib.hid hp
  clear hr hp
  go_enter Try.func33, Try.ntmps33
  go_wp2
  go_loopw [8] (fun i wr => ∃ k : Nat, k ≤ l.length ∧ i = .int .i64 k ∧ Hid (∀ j (hj : j < l.length), j < k → (l[j].n.toList == nm.toList) = false) ∧ Hid (Below w.heap.size w wr)) (fun i _ => l.length - (intOf i).toNat)
  case atStart => exact ⟨0, Nat.zero_le _, rfl, Lib.hid (fun j _ h => absurd h (by omega)), Lib.hid (Below.refl _ _)⟩
  case round =>
    obtain ⟨k, hk, rfl, HN, HB⟩ := hrel
    by_cases hlt : k < l.length
    · obtain ⟨m, hm⟩ : ∃ m, m = l[k] := ⟨_, rfl⟩
      obtain ⟨b0, o0, hbo, hcl⟩ := (HR.out.below HB.out).at (by rw [flat_length encM 6 encM_length]; omega)
      subst hbo
      have q0 := hcl (k * 6 + 0) (.string m.n) (by rw [flat_get encM 6 encM_length l k hlt 0 (by decide), hm]; rfl)
      have q1 := hcl (k * 6 + 1) (.int .u64 m.a) (by rw [flat_get encM 6 encM_length l k hlt 1 (by decide), hm]; rfl)
      have q2 := hcl (k * 6 + 2) (.int .u64 m.b) (by rw [flat_get encM 6 encM_length l k hlt 2 (by decide), hm]; rfl)
      have q3 := hcl (k * 6 + 3) (.int .u64 m.c) (by rw [flat_get encM 6 encM_length l k hlt 3 (by decide), hm]; rfl)
      have q4 := hcl (k * 6 + 4) (.int .u64 m.d) (by rw [flat_get encM 6 encM_length l k hlt 4 (by decide), hm]; rfl)
      have q5 := hcl (k * 6 + 5) (.string m.s) (by rw [flat_get encM 6 encM_length l k hlt 5 (by decide), hm]; rfl)
      rw [Nat.add_zero] at q0
      rw [← Nat.add_assoc] at q1 q2 q3 q4 q5
      have HPW := Lib.hid (show wr.cell? p = some (.string nm) by rw [HB.out.cell (cell_lt HP.out)]; exact HP.out)
      have HM := Lib.hid hm
      clear hcl hm
      have HF := Lib.hid (fun W h => find1_m m nm p W h)
      obtain ⟨t, ht⟩ : ∃ t, t = (m.n.toList == nm.toList) := ⟨_, rfl⟩
      rw [← ht] at HF
      have HT := Lib.hid ht
      clear ht
      cases t
      · go_wp2_with (first | (go_at_call 34; refine (HF.out _ HPW.out).mono ?_; rintro e w1 ⟨rfl, hb1⟩; have HB1 := Lib.hid (HB.out.trans (hb1.mono HB.out.size)); clear hb1))
        refine ⟨⟨k + 1, by omega, by go_num, Lib.hid ?_, HB1⟩, by simp [intOf]; omega⟩
        intro j hj h
        rcases Nat.lt_or_ge j k with h2 | h2
        · exact HN.out j hj h2
        · obtain rfl : j = k := by omega
          rw [← HM.out]; exact HT.out.symm
      · go_wp2_with (first | (go_at_call 34; refine (HF.out _ HPW.out).mono ?_; rintro e w1 ⟨rfl, hb1⟩; have HB1 := Lib.hid (HB.out.trans (hb1.mono HB.out.size)); clear hb1))
        go_ret
        refine ⟨?_, HB1.out⟩
        have : findN l nm = some k := by
          unfold findN
          rw [List.findIdx?_eq_some_iff_getElem]
          exact ⟨hlt, by rw [← HM.out]; exact HT.out.symm, fun j hj => by have := HN.out j (by omega) hj; simpa using this⟩
        unfold findI; rw [this]; rfl
    · obtain rfl : k = l.length := by omega
      go_wp2
      go_ret
      refine ⟨?_, HB.out⟩
      have : findN l nm = none := by
        unfold findN
        rw [List.findIdx?_eq_none_iff]
        intro x hx
        obtain ⟨j, hj, rfl⟩ := List.mem_iff_getElem.1 hx
        exact HN.out j hj hj
      unfold findI; rw [this]; rfl
theorem find_m (l : List MemD) (hl : l.length ≤ 1000000) (nm : ByteArray) (a : Option Addr) (c : Nat) (w : World) (hr : Rd w a (l.flatMap encM)) :
    Calls Try.prog 21 #[.slice a l.length c, .string nm] w fun e w' => e = .returned (.int .i64 (findI l nm)) ∧ Below w.heap.size w w' := by
  have HR := Lib.hid (hr.alloc (.cells #[.string nm] 9))
  clear hr
  have hmf : ∀ (fn : Fn) (first cap : Array Value) (w : World), (Instr.makeFunc fn first cap).run Try.prog w = .ok (.func fn first cap) w := fun _ _ _ _ => rfl
  go_enter Try.func21, Try.ntmps21
  go_wp2_with (first | (go_at_call 33; refine (indexFunc_find l hl nm ⟨w.heap.size, 0, none⟩ a c _ HR.out (by rw [World.cell?_alloc_new]; rfl)).mono ?_; rintro e w1 ⟨rfl, hb1⟩; have HB1 := Lib.hid (((Below.refl w.heap.size w).alloc (Nat.le_refl _) (.cells #[.string nm] 9)).trans (hb1.mono (by simp))); clear hb1))
  go_ret
  exact ⟨rfl, HB1.out⟩
end Go.Proofs.Ytienjagoplcimaa

/- Contracts over this translation: arnum.Trim and arnum.Get at base 8 and 10, for every text. -/
import Derived.Test.YtnjaijmodkfnjaaDoorFmtC
import Derived.Shelf.Spec.BitsCarry
namespace Go.Proofs.YtnjaijmodkfnjaaDoor
set_option linter.unusedVariables false
set_option linter.unusedSimpArgs false
open Go.RowKit Go.Shelf

theorem trim_any (s : ByteArray) (hs : s.size ≤ 9223372036854775807) (w : World) :
    Calls Tryd.prog 11 #[.string s] w fun e w' => e = .returned (.string ⟨(Lib.trimRightB s.data.toList 32).toArray⟩) ∧ w' = w := by
  go_enter Tryd.func11, Tryd.ntmps11
  go_wp2_with (go_at_call 19; refine (Tryd.strings_TrimRight_one s 32 (by decide) _ hs).mono ?_; rintro e w' ⟨rfl, rfl⟩)
  go_ret
  exact ⟨rfl, rfl⟩

/-- A byte less '0', as Go reckons it. -/
def dgt (c : UInt8) : Nat := (c.toNat + 208) % 256
/-- The number of digits in a base, from a number on. -/
def getS (b : Nat) : List UInt8 → Nat → Option Nat
  | [], n => some n
  | c :: r, n => if dgt c < b ∧ n * b + dgt c < 18446744073709551616 then getS b r (n * b + dgt c) else none
def gN : Option Nat → Nat
  | some n => n
  | none => 0
def gB : Option Nat → Bool
  | some _ => true
  | none => false
theorem dgt_wrap (c : UInt8) : IntKind.u8.wrap ((c.toNat : Int) - 48) = (dgt c : Int) := by
  have := c.toNat_lt
  rw [IntKind.wrap_u8]; unfold dgt; omega
theorem add64 (x y sm ca : Nat) (h1 : sm = (x + y) % 18446744073709551616) (h2 : ca = (x + y) / 18446744073709551616) (w : World) : (callFunc 18 #[.int .u64 x, .int .u64 y, .int .u64 0]).run Tryd.prog w =
    .ok (.value (.tuple #[.int .u64 sm, .int .u64 ca])) w := by
  subst h1 h2
  refine Eq.trans (b := Result.ok (.value (.tuple #[.int .u64 (((x + y + 0) % 18446744073709551616 : Nat) : Int), .int .u64 (((x + y + 0) / 18446744073709551616 : Nat) : Int)])) w) ?_ rfl
  rw [run_callFunc_extern Tryd.func18 (by kernel_rfl) (by kernel_rfl) (by kernel_rfl) (e := add64Entry) (by kernel_rfl), run_add64 x y 0 (by omega) (by omega) (by omega) (by omega)]
  simp only [Result.andThen]
  congr 5 <;> omega
theorem trimRightB_le (l : List UInt8) (c : UInt8) : (Lib.trimRightB l c).length ≤ l.length := by
  unfold Lib.trimRightB
  rw [List.length_reverse]
  exact Nat.le_trans (List.dropWhile_sublist _).length_le (by simp)
theorem mul64_8 (x hi lo : Nat) (hx : x < 18446744073709551616) (h1 : hi = x * 8 / 18446744073709551616) (h2 : lo = x * 8 % 18446744073709551616) (w : World) :
    Calls Tryd.prog 17 #[.int .u64 x, .int .u64 8] w fun e w' => e = .returned (.tuple #[.int .u64 hi, .int .u64 lo]) ∧ w' = w := by
  subst h1 h2
  exact Tryd.bits_Mul64 x 8 hx (by decide) w

set_option maxHeartbeats 1000000 in
theorem get_8 (s : ByteArray) (hs : s.size ≤ 9223372036854775807) (w : World) :
    Calls Tryd.prog 9 #[.string s, .int .i64 8] w fun e w' => e = .returned (.tuple #[.int .u64 (gN (getS 8 (Lib.trimRightB s.data.toList 32) 0) : Nat), .bool (gB (getS 8 (Lib.trimRightB s.data.toList 32) 0))]) ∧ Below w.heap.size w w' := by
  obtain ⟨l, hl⟩ : ∃ l, l = Lib.trimRightB s.data.toList 32 := ⟨_, rfl⟩
  have hls : l.length ≤ s.size := by rw [hl]; exact trimRightB_le _ _
  have HT := Lib.hid (trim_any s hs)
  rw [← hl] at HT ⊢
  clear hl
  have kc := fun (W : World) (t : ByteArray) => Lib.run_convert_string_bytes (P := Tryd.prog) W 9 37 5 t Tryd.underlying9 Tryd.underlying37 Tryd.underlying5
  go_enter Tryd.func9, Tryd.ntmps9
  go_wp2_with (go_at_call 11; refine (HT.out _).mono ?_; rintro e w' ⟨rfl, rfl⟩)
  clear kc
  go_loop [6, 24] (fun v i => ∃ k n : Nat, k ≤ l.length ∧ v = .int .u64 n ∧ i = .int .i64 k ∧ Hid (n < 18446744073709551616 ∧ getS 8 l 0 = getS 8 (l.drop k) n)) (fun _ i => l.length - (intOf i).toNat)
  case atStart => exact ⟨0, 0, Nat.zero_le _, rfl, rfl, ⟨by decide, by simp⟩⟩
  case round =>
    obtain ⟨k, n, hk, rfl, rfl, HI⟩ := hrel
    by_cases hlt : k < l.length
    · have hcell : (Lib.bytesWorld w' 5 ⟨l.toArray⟩).cell? ⟨w'.heap.size, k, none⟩ = some (.int .u8 (l[k].toNat : Int)) := by
        rw [Lib.bytesWorld_cell _ _ _ _ (by show k < l.toArray.size; simpa using hlt)]
        simp [hlt]
      obtain ⟨c, HC⟩ : ∃ c, Hid (l[k] = c) := ⟨_, Lib.hid rfl⟩
      rw [HC.out] at hcell
      obtain ⟨d, hd⟩ : ∃ d, d = dgt c := ⟨_, rfl⟩
      have hdw := dgt_wrap c
      rw [← hd] at hdw
      have hd256 : d < 256 := by rw [hd]; unfold dgt; omega
      have HD := Lib.hid hd
      clear hd
      obtain ⟨hi, hhi⟩ : ∃ hi, hi = n * 8 / 18446744073709551616 := ⟨_, rfl⟩
      obtain ⟨lo, hlo⟩ : ∃ lo, lo = n * 8 % 18446744073709551616 := ⟨_, rfl⟩
      obtain ⟨sm, hsm⟩ : ∃ sm, sm = (lo + d) % 18446744073709551616 := ⟨_, rfl⟩
      obtain ⟨ca, hca⟩ : ∃ ca, ca = (lo + d) / 18446744073709551616 := ⟨_, rfl⟩
      have hn := HI.out.1
      have HM := Lib.hid (mul64_8 n hi lo hn hhi hlo)
      have hA := add64 lo d sm ca hsm hca
      have hhi9 : hi ≤ 9 := by omega
      have hca1 : ca ≤ 1 := by omega
      have hov : (hi + ca = 0) ↔ n * 8 + d < 18446744073709551616 := by omega
      have hsm2 : n * 8 + d < 18446744073709551616 → sm = n * 8 + d := by omega
      have HO := Lib.hid hov
      have HS := Lib.hid hsm2
      clear hhi hlo hsm hca hov hsm2 hn
      go_wp2_with (first | (go_at_call 17; refine (HM.out _).mono ?_; rintro e w' ⟨rfl, rfl⟩) | simp only [hA])
      · have ht : 8 ≤ (d : Int) ∨ ((hi : Int) + ca != 0) = true := by assumption
        have e : getS 8 l 0 = none := by
          rw [HI.out.2, List.drop_eq_getElem_cons hlt, HC.out, getS, if_neg]
          rintro ⟨h1, h2⟩
          rw [← HD.out] at h1 h2
          have := HO.out.2 h2
          rcases ht with ht | ht
          · omega
          · simp at ht; omega
        go_ret2
        exact ⟨by rw [e]; rfl, below_bytesWorld _ _ _⟩
      · have ht : (d : Int) < 8 ∧ ((hi : Int) + ca != 0) = false := by assumption
        have hz : n * 8 + d < 18446744073709551616 := HO.out.1 (by have := ht.2; simp at this; omega)
        have hd8 : d < 8 := by omega
        have e : getS 8 l 0 = getS 8 (l.drop (k + 1)) sm := by
          rw [HI.out.2, List.drop_eq_getElem_cons hlt, HC.out, getS, if_pos (by rw [← HD.out]; exact ⟨hd8, hz⟩), HS.out hz, ← HD.out]
        exact ⟨⟨k + 1, sm, by omega, rfl, by go_num, ⟨by rw [HS.out hz]; exact hz, e⟩⟩, by simp [intOf]; omega⟩
      · have ht : 8 ≤ (d : Int) := by assumption
        have e : getS 8 l 0 = none := by
          rw [HI.out.2, List.drop_eq_getElem_cons hlt, HC.out, getS, if_neg]
          rintro ⟨h1, h2⟩
          rw [← HD.out] at h1
          omega
        go_ret2
        exact ⟨by rw [e]; rfl, below_bytesWorld _ _ _⟩
    · have e : getS 8 l 0 = some n := by
        rw [HI.out.2, List.drop_of_length_le (by omega)]; rfl
      go_wp2
      go_ret2
      exact ⟨rfl, below_bytesWorld _ _ _⟩
theorem mul64_10 (x hi lo : Nat) (hx : x < 18446744073709551616) (h1 : hi = x * 10 / 18446744073709551616) (h2 : lo = x * 10 % 18446744073709551616) (w : World) :
    Calls Tryd.prog 17 #[.int .u64 x, .int .u64 10] w fun e w' => e = .returned (.tuple #[.int .u64 hi, .int .u64 lo]) ∧ w' = w := by
  subst h1 h2
  exact Tryd.bits_Mul64 x 10 hx (by decide) w

set_option maxHeartbeats 1000000 in
theorem get_10 (s : ByteArray) (hs : s.size ≤ 9223372036854775807) (w : World) :
    Calls Tryd.prog 9 #[.string s, .int .i64 10] w fun e w' => e = .returned (.tuple #[.int .u64 (gN (getS 10 (Lib.trimRightB s.data.toList 32) 0) : Nat), .bool (gB (getS 10 (Lib.trimRightB s.data.toList 32) 0))]) ∧ Below w.heap.size w w' := by
  obtain ⟨l, hl⟩ : ∃ l, l = Lib.trimRightB s.data.toList 32 := ⟨_, rfl⟩
  have hls : l.length ≤ s.size := by rw [hl]; exact trimRightB_le _ _
  have HT := Lib.hid (trim_any s hs)
  rw [← hl] at HT ⊢
  clear hl
  have kc := fun (W : World) (t : ByteArray) => Lib.run_convert_string_bytes (P := Tryd.prog) W 9 37 5 t Tryd.underlying9 Tryd.underlying37 Tryd.underlying5
  go_enter Tryd.func9, Tryd.ntmps9
  go_wp2_with (go_at_call 11; refine (HT.out _).mono ?_; rintro e w' ⟨rfl, rfl⟩)
  clear kc
  go_loop [6, 24] (fun v i => ∃ k n : Nat, k ≤ l.length ∧ v = .int .u64 n ∧ i = .int .i64 k ∧ Hid (n < 18446744073709551616 ∧ getS 10 l 0 = getS 10 (l.drop k) n)) (fun _ i => l.length - (intOf i).toNat)
  case atStart => exact ⟨0, 0, Nat.zero_le _, rfl, rfl, ⟨by decide, by simp⟩⟩
  case round =>
    obtain ⟨k, n, hk, rfl, rfl, HI⟩ := hrel
    by_cases hlt : k < l.length
    · have hcell : (Lib.bytesWorld w' 5 ⟨l.toArray⟩).cell? ⟨w'.heap.size, k, none⟩ = some (.int .u8 (l[k].toNat : Int)) := by
        rw [Lib.bytesWorld_cell _ _ _ _ (by show k < l.toArray.size; simpa using hlt)]
        simp [hlt]
      obtain ⟨c, HC⟩ : ∃ c, Hid (l[k] = c) := ⟨_, Lib.hid rfl⟩
      rw [HC.out] at hcell
      obtain ⟨d, hd⟩ : ∃ d, d = dgt c := ⟨_, rfl⟩
      have hdw := dgt_wrap c
      rw [← hd] at hdw
      have hd256 : d < 256 := by rw [hd]; unfold dgt; omega
      have HD := Lib.hid hd
      clear hd
      obtain ⟨hi, hhi⟩ : ∃ hi, hi = n * 10 / 18446744073709551616 := ⟨_, rfl⟩
      obtain ⟨lo, hlo⟩ : ∃ lo, lo = n * 10 % 18446744073709551616 := ⟨_, rfl⟩
      obtain ⟨sm, hsm⟩ : ∃ sm, sm = (lo + d) % 18446744073709551616 := ⟨_, rfl⟩
      obtain ⟨ca, hca⟩ : ∃ ca, ca = (lo + d) / 18446744073709551616 := ⟨_, rfl⟩
      have hn := HI.out.1
      have HM := Lib.hid (mul64_10 n hi lo hn hhi hlo)
      have hA := add64 lo d sm ca hsm hca
      have hhi9 : hi ≤ 9 := by omega
      have hca1 : ca ≤ 1 := by omega
      have hov : (hi + ca = 0) ↔ n * 10 + d < 18446744073709551616 := by omega
      have hsm2 : n * 10 + d < 18446744073709551616 → sm = n * 10 + d := by omega
      have HO := Lib.hid hov
      have HS := Lib.hid hsm2
      clear hhi hlo hsm hca hov hsm2 hn
      go_wp2_with (first | (go_at_call 17; refine (HM.out _).mono ?_; rintro e w' ⟨rfl, rfl⟩) | simp only [hA])
      · have ht : 10 ≤ (d : Int) ∨ ((hi : Int) + ca != 0) = true := by assumption
        have e : getS 10 l 0 = none := by
          rw [HI.out.2, List.drop_eq_getElem_cons hlt, HC.out, getS, if_neg]
          rintro ⟨h1, h2⟩
          rw [← HD.out] at h1 h2
          have := HO.out.2 h2
          rcases ht with ht | ht
          · omega
          · simp at ht; omega
        go_ret2
        exact ⟨by rw [e]; rfl, below_bytesWorld _ _ _⟩
      · have ht : (d : Int) < 10 ∧ ((hi : Int) + ca != 0) = false := by assumption
        have hz : n * 10 + d < 18446744073709551616 := HO.out.1 (by have := ht.2; simp at this; omega)
        have hd8 : d < 10 := by omega
        have e : getS 10 l 0 = getS 10 (l.drop (k + 1)) sm := by
          rw [HI.out.2, List.drop_eq_getElem_cons hlt, HC.out, getS, if_pos (by rw [← HD.out]; exact ⟨hd8, hz⟩), HS.out hz, ← HD.out]
        exact ⟨⟨k + 1, sm, by omega, rfl, by go_num, ⟨by rw [HS.out hz]; exact hz, e⟩⟩, by simp [intOf]; omega⟩
      · have ht : 10 ≤ (d : Int) := by assumption
        have e : getS 10 l 0 = none := by
          rw [HI.out.2, List.drop_eq_getElem_cons hlt, HC.out, getS, if_neg]
          rintro ⟨h1, h2⟩
          rw [← HD.out] at h1
          omega
        go_ret2
        exact ⟨by rw [e]; rfl, below_bytesWorld _ _ _⟩
    · have e : getS 10 l 0 = some n := by
        rw [HI.out.2, List.drop_of_length_le (by omega)]; rfl
      go_wp2
      go_ret2
      exact ⟨rfl, below_bytesWorld _ _ _⟩
end Go.Proofs.YtnjaijmodkfnjaaDoor

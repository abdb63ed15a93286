/- Contract over this translation: the document's Get of layer 21, for every text: it is the program's. -/
import Derived.Test.YtnjaijmodkfnjaaDoorArnumC
namespace Go.Proofs.YtnjaijmodkfnjaaDoor
set_option linter.unusedVariables false
set_option linter.unusedSimpArgs false
open Go.RowKit Go.Shelf

/-- The document's Get, as it goes. -/
def rget (b : Nat) : List UInt8 → Nat → Option Nat
  | [], n => some n
  | c :: r, n => if c = 32 then (if r.all (· == 32) then some n else none) else if 48 ≤ c.toNat ∧ dgt c < b ∧ n * b + dgt c < 18446744073709551616 then rget b r (n * b + dgt c) else none
theorem trim_cons (c : UInt8) (r : List UInt8) : Lib.trimRightB (c :: r) 32 = if c = 32 ∧ Lib.trimRightB r 32 = [] then [] else c :: Lib.trimRightB r 32 := by
  unfold Lib.trimRightB
  rw [List.reverse_cons, List.dropWhile_append]
  by_cases h : (List.dropWhile (fun x => x == 32) r.reverse) = []
  · rw [h]
    by_cases hc : c = 32
    · simp [hc]
    · simp [hc]
  · have hn : (List.dropWhile (fun x => x == 32) r.reverse).isEmpty = false := by simpa using h
    rw [hn]; simp [h]
theorem trim_nil_iff (r : List UInt8) : Lib.trimRightB r 32 = [] ↔ r.all (· == 32) = true := by
  unfold Lib.trimRightB
  rw [List.reverse_eq_nil_iff, List.all_eq_true]
  have e : ∀ t : List UInt8, t.dropWhile (fun x => x == 32) = [] ↔ ∀ x ∈ t, (x == 32) = true := by
    intro t
    induction t with
    | nil => simp
    | cons a t ih =>
      by_cases ha : a = 32
      · rw [List.dropWhile_cons_of_pos (by simpa using ha), ih]; simp [ha]
      · rw [List.dropWhile_cons_of_neg (by simpa using ha)]; simp [ha]
  rw [e]
  simp
theorem dgt_lt (c : UInt8) (b : Nat) (hb : b ≤ 10) : dgt c < b → 48 ≤ c.toNat := by
  have := c.toNat_lt; unfold dgt; omega
theorem rget_eq (b : Nat) (hb : b ≤ 10) (l : List UInt8) : ∀ n, rget b l n = getS b (Lib.trimRightB l 32) n := by
  induction l with
  | nil => intro n; rfl
  | cons c r ih =>
    intro n
    rw [rget, trim_cons]
    by_cases hc : c = 32
    · subst hc
      rw [if_pos rfl]
      by_cases hr : Lib.trimRightB r 32 = []
      · rw [if_pos ((trim_nil_iff r).1 hr), if_pos ⟨rfl, hr⟩]; rfl
      · rw [if_neg (fun h => hr ((trim_nil_iff r).2 h)), if_neg (fun h => hr h.2), getS, if_neg]
        rintro ⟨h, _⟩
        have : dgt 32 = 240 := by decide
        omega
    · rw [if_neg hc, if_neg (fun h : c = 32 ∧ _ => hc h.1)]
      rw [show getS b (c :: Lib.trimRightB r 32) n = if dgt c < b ∧ n * b + dgt c < 18446744073709551616 then getS b (Lib.trimRightB r 32) (n * b + dgt c) else none from rfl]
      by_cases h : dgt c < b ∧ n * b + dgt c < 18446744073709551616
      · rw [if_pos ⟨dgt_lt c b hb h.1, h⟩, if_pos h, ih]
      · rw [if_neg (fun h' => h h'.2), if_neg h]

theorem dgt_int (c : UInt8) : (dgt c : Int) = ((c.toNat : Int) - 48) % 256 := by unfold dgt; have := c.toNat_lt; omega
theorem rget_cons (b : Nat) (c : UInt8) (r : List UInt8) (n : Nat) (hc : c ≠ 32) : rget b (c :: r) n = if 48 ≤ c.toNat ∧ dgt c < b ∧ n * b + dgt c < 18446744073709551616 then rget b r (n * b + dgt c) else none := by
  rw [rget, if_neg hc]
theorem rget_space (b : Nat) (r : List UInt8) (n : Nat) : rget b (32 :: r) n = if r.all (· == 32) then some n else none := by
  rw [rget, if_pos rfl]

set_option maxHeartbeats 4000000 in
theorem refGet_8 (l : List UInt8) (hl : l.length ≤ 1000000) (w : World) :
    Calls Tryd.prog 12 #[.string ⟨l.toArray⟩, .int .u64 8] w fun e w' => e = .returned (.tuple #[.int .u64 (gN (rget 8 l 0) : Nat), .bool (gB (rget 8 l 0))]) ∧ w' = w := by
  go_enter Tryd.func12, Tryd.ntmps12
  go_wp2
  go_loop [6, 7] (fun v i => ∃ k n : Nat, k ≤ l.length ∧ v = .int .u64 n ∧ i = .int .i64 k ∧ Hid (n < 18446744073709551616 ∧ rget 8 l 0 = rget 8 (l.drop k) n)) (fun _ i => l.length - (intOf i).toNat)
  case atStart => exact ⟨0, 0, Nat.zero_le _, rfl, rfl, ⟨by decide, by simp⟩⟩
  case round =>
    obtain ⟨k, n, hk, rfl, rfl, HI⟩ := hrel
    have hn := HI.out.1
    by_cases hlt : k < l.length
    · obtain ⟨c, HC⟩ : ∃ c, Hid (l[k] = c) := ⟨_, Lib.hid rfl⟩
      have hix : (⟨l.toArray⟩ : ByteArray)[k]'(by show k < l.toArray.size; simpa using hlt) = c := HC.out
      by_cases hc : c = 32
      · have HE := Lib.hid (show rget 8 l 0 = if (l.drop k).all (· == 32) then some n else none by
          rw [HI.out.2, List.drop_eq_getElem_cons hlt, HC.out, hc, rget_space]; simp)
        subst hc
        go_wp2
        go_loop [7] (fun i => ∃ j : Nat, j ≤ l.length ∧ i = .int .i64 j ∧ Hid (rget 8 l 0 = if (l.drop j).all (· == 32) then some n else none)) (fun i => l.length - (intOf i).toNat)
        case atStart => exact ⟨k, hk, rfl, HE⟩
        case round =>
          obtain ⟨j, hj, rfl, HJ⟩ := hrel
          by_cases hjl : j < l.length
          · obtain ⟨c2, HC2⟩ : ∃ c2, Hid (l[j] = c2) := ⟨_, Lib.hid rfl⟩
            have hix2 : (⟨l.toArray⟩ : ByteArray)[j]'(by show j < l.toArray.size; simpa using hjl) = c2 := HC2.out
            by_cases hc2 : c2 = 32
            · have HS := Lib.hid (show rget 8 l 0 = if (l.drop (j + 1)).all (· == 32) then some n else none by
                rw [HJ.out, List.drop_eq_getElem_cons hjl, HC2.out, hc2]; simp)
              subst hc2
              go_wp2
              go_round
              case rel => exact ⟨j + 1, by omega, by go_num, HS⟩
              case measure => simp [intOf]; omega
            · have HS := Lib.hid (show rget 8 l 0 = none by
                rw [HJ.out, List.drop_eq_getElem_cons hjl, HC2.out, if_neg (by simp [hc2])])
              have e3 : ((c2.toNat : Int) != 32) = true := by
                have : c2.toNat ≠ 32 := fun h => hc2 (UInt8.toNat_inj.1 h)
                simp; omega
              go_wp2
              go_ret2
              exact ⟨by rw [HS.out]; rfl, rfl⟩
          · have HS := Lib.hid (show rget 8 l 0 = some n by
              rw [HJ.out, List.drop_of_length_le (by omega)]; rfl)
            go_wp2
            go_ret2
            exact ⟨by rw [HS.out]; rfl, rfl⟩
      · have e3 : ((c.toNat : Int) != 32) = true := by
          have : c.toNat ≠ 32 := fun h => hc (UInt8.toNat_inj.1 h)
          simp; omega
        have HR := Lib.hid (show rget 8 l 0 = if 48 ≤ c.toNat ∧ dgt c < 8 ∧ n * 8 + dgt c < 18446744073709551616 then rget 8 (l.drop (k + 1)) (n * 8 + dgt c) else none by
          rw [HI.out.2, List.drop_eq_getElem_cons hlt, HC.out, rget_cons _ _ _ _ hc])
        have HD := Lib.hid (dgt_int c)
        have hc256 := c.toNat_lt
        go_wp2
        · have t : (c.toNat : Int) < 48 ∨ 8 ≤ (c.toNat : Int) - 48 := by assumption
          have HN := Lib.hid (show rget 8 l 0 = none by rw [HR.out, if_neg]; rintro ⟨h1, h2, _⟩; have := HD.out; omega)
          go_ret2
          exact ⟨by rw [HN.out]; rfl, rfl⟩
        · have t : 48 ≤ (c.toNat : Int) ∧ (c.toNat : Int) - 48 < 8 := by assumption
          have t2 : (18446744073709551615 - ((c.toNat : Int) - 48)) / 8 < (n : Int) := by assumption
          have HN := Lib.hid (show rget 8 l 0 = none by rw [HR.out, if_neg]; rintro ⟨h1, h2, h3⟩; have := HD.out; omega)
          go_ret2
          exact ⟨by rw [HN.out]; rfl, rfl⟩
        · have t : 48 ≤ (c.toNat : Int) ∧ (c.toNat : Int) - 48 < 8 := by assumption
          have t2 : (n : Int) ≤ (18446744073709551615 - ((c.toNat : Int) - 48)) / 8 := by assumption
          have hov : n * 8 + dgt c < 18446744073709551616 := by have := HD.out; omega
          have hd : dgt c < 8 := by have := HD.out; omega
          have HN := Lib.hid (show rget 8 l 0 = rget 8 (l.drop (k + 1)) (n * 8 + dgt c) by rw [HR.out, if_pos ⟨by omega, hd, hov⟩])
          refine ⟨⟨k + 1, n * 8 + dgt c, by omega, congrArg (Value.int .u64) ?_, by go_num, ⟨hov, HN.out⟩⟩, by simp [intOf]; omega⟩
          have := HD.out
          omega
        · have t : (c.toNat : Int) < 48 := by assumption
          have HN := Lib.hid (show rget 8 l 0 = none by rw [HR.out, if_neg]; rintro ⟨h1, h2, _⟩; omega)
          go_ret2
          exact ⟨by rw [HN.out]; rfl, rfl⟩
    · have HE := Lib.hid (show rget 8 l 0 = if (l.drop k).all (· == 32) then some n else none by
        rw [HI.out.2, List.drop_of_length_le (by omega)]; rfl)
      go_wp2
      go_loop [7] (fun i => ∃ j : Nat, j ≤ l.length ∧ i = .int .i64 j ∧ Hid (rget 8 l 0 = if (l.drop j).all (· == 32) then some n else none)) (fun i => l.length - (intOf i).toNat)
      case atStart => exact ⟨k, hk, rfl, HE⟩
      case round =>
        obtain ⟨j, hj, rfl, HJ⟩ := hrel
        by_cases hjl : j < l.length
        · obtain ⟨c2, HC2⟩ : ∃ c2, Hid (l[j] = c2) := ⟨_, Lib.hid rfl⟩
          have hix2 : (⟨l.toArray⟩ : ByteArray)[j]'(by show j < l.toArray.size; simpa using hjl) = c2 := HC2.out
          by_cases hc2 : c2 = 32
          · have HS := Lib.hid (show rget 8 l 0 = if (l.drop (j + 1)).all (· == 32) then some n else none by
              rw [HJ.out, List.drop_eq_getElem_cons hjl, HC2.out, hc2]; simp)
            subst hc2
            go_wp2
            go_round
            case rel => exact ⟨j + 1, by omega, by go_num, HS⟩
            case measure => simp [intOf]; omega
          · have HS := Lib.hid (show rget 8 l 0 = none by
              rw [HJ.out, List.drop_eq_getElem_cons hjl, HC2.out, if_neg (by simp [hc2])])
            have e3 : ((c2.toNat : Int) != 32) = true := by
              have : c2.toNat ≠ 32 := fun h => hc2 (UInt8.toNat_inj.1 h)
              simp; omega
            go_wp2
            go_ret2
            exact ⟨by rw [HS.out]; rfl, rfl⟩
        · have HS := Lib.hid (show rget 8 l 0 = some n by
            rw [HJ.out, List.drop_of_length_le (by omega)]; rfl)
          go_wp2
          go_ret2
          exact ⟨by rw [HS.out]; rfl, rfl⟩

set_option maxHeartbeats 4000000 in
theorem refGet_10 (l : List UInt8) (hl : l.length ≤ 1000000) (w : World) :
    Calls Tryd.prog 12 #[.string ⟨l.toArray⟩, .int .u64 10] w fun e w' => e = .returned (.tuple #[.int .u64 (gN (rget 10 l 0) : Nat), .bool (gB (rget 10 l 0))]) ∧ w' = w := by
  go_enter Tryd.func12, Tryd.ntmps12
  go_wp2
  go_loop [6, 7] (fun v i => ∃ k n : Nat, k ≤ l.length ∧ v = .int .u64 n ∧ i = .int .i64 k ∧ Hid (n < 18446744073709551616 ∧ rget 10 l 0 = rget 10 (l.drop k) n)) (fun _ i => l.length - (intOf i).toNat)
  case atStart => exact ⟨0, 0, Nat.zero_le _, rfl, rfl, ⟨by decide, by simp⟩⟩
  case round =>
    obtain ⟨k, n, hk, rfl, rfl, HI⟩ := hrel
    have hn := HI.out.1
    by_cases hlt : k < l.length
    · obtain ⟨c, HC⟩ : ∃ c, Hid (l[k] = c) := ⟨_, Lib.hid rfl⟩
      have hix : (⟨l.toArray⟩ : ByteArray)[k]'(by show k < l.toArray.size; simpa using hlt) = c := HC.out
      by_cases hc : c = 32
      · have HE := Lib.hid (show rget 10 l 0 = if (l.drop k).all (· == 32) then some n else none by
          rw [HI.out.2, List.drop_eq_getElem_cons hlt, HC.out, hc, rget_space]; simp)
        subst hc
        go_wp2
        go_loop [7] (fun i => ∃ j : Nat, j ≤ l.length ∧ i = .int .i64 j ∧ Hid (rget 10 l 0 = if (l.drop j).all (· == 32) then some n else none)) (fun i => l.length - (intOf i).toNat)
        case atStart => exact ⟨k, hk, rfl, HE⟩
        case round =>
          obtain ⟨j, hj, rfl, HJ⟩ := hrel
          by_cases hjl : j < l.length
          · obtain ⟨c2, HC2⟩ : ∃ c2, Hid (l[j] = c2) := ⟨_, Lib.hid rfl⟩
            have hix2 : (⟨l.toArray⟩ : ByteArray)[j]'(by show j < l.toArray.size; simpa using hjl) = c2 := HC2.out
            by_cases hc2 : c2 = 32
            · have HS := Lib.hid (show rget 10 l 0 = if (l.drop (j + 1)).all (· == 32) then some n else none by
                rw [HJ.out, List.drop_eq_getElem_cons hjl, HC2.out, hc2]; simp)
              subst hc2
              go_wp2
              go_round
              case rel => exact ⟨j + 1, by omega, by go_num, HS⟩
              case measure => simp [intOf]; omega
            · have HS := Lib.hid (show rget 10 l 0 = none by
                rw [HJ.out, List.drop_eq_getElem_cons hjl, HC2.out, if_neg (by simp [hc2])])
              have e3 : ((c2.toNat : Int) != 32) = true := by
                have : c2.toNat ≠ 32 := fun h => hc2 (UInt8.toNat_inj.1 h)
                simp; omega
              go_wp2
              go_ret2
              exact ⟨by rw [HS.out]; rfl, rfl⟩
          · have HS := Lib.hid (show rget 10 l 0 = some n by
              rw [HJ.out, List.drop_of_length_le (by omega)]; rfl)
            go_wp2
            go_ret2
            exact ⟨by rw [HS.out]; rfl, rfl⟩
      · have e3 : ((c.toNat : Int) != 32) = true := by
          have : c.toNat ≠ 32 := fun h => hc (UInt8.toNat_inj.1 h)
          simp; omega
        have HR := Lib.hid (show rget 10 l 0 = if 48 ≤ c.toNat ∧ dgt c < 10 ∧ n * 10 + dgt c < 18446744073709551616 then rget 10 (l.drop (k + 1)) (n * 10 + dgt c) else none by
          rw [HI.out.2, List.drop_eq_getElem_cons hlt, HC.out, rget_cons _ _ _ _ hc])
        have HD := Lib.hid (dgt_int c)
        have hc256 := c.toNat_lt
        go_wp2
        · have t : (c.toNat : Int) < 48 ∨ 10 ≤ (c.toNat : Int) - 48 := by assumption
          have HN := Lib.hid (show rget 10 l 0 = none by rw [HR.out, if_neg]; rintro ⟨h1, h2, _⟩; have := HD.out; omega)
          go_ret2
          exact ⟨by rw [HN.out]; rfl, rfl⟩
        · have t : 48 ≤ (c.toNat : Int) ∧ (c.toNat : Int) - 48 < 10 := by assumption
          have t2 : (18446744073709551615 - ((c.toNat : Int) - 48)) / 10 < (n : Int) := by assumption
          have HN := Lib.hid (show rget 10 l 0 = none by rw [HR.out, if_neg]; rintro ⟨h1, h2, h3⟩; have := HD.out; omega)
          go_ret2
          exact ⟨by rw [HN.out]; rfl, rfl⟩
        · have t : 48 ≤ (c.toNat : Int) ∧ (c.toNat : Int) - 48 < 10 := by assumption
          have t2 : (n : Int) ≤ (18446744073709551615 - ((c.toNat : Int) - 48)) / 10 := by assumption
          have hov : n * 10 + dgt c < 18446744073709551616 := by have := HD.out; omega
          have hd : dgt c < 10 := by have := HD.out; omega
          have HN := Lib.hid (show rget 10 l 0 = rget 10 (l.drop (k + 1)) (n * 10 + dgt c) by rw [HR.out, if_pos ⟨by omega, hd, hov⟩])
          refine ⟨⟨k + 1, n * 10 + dgt c, by omega, congrArg (Value.int .u64) ?_, by go_num, ⟨hov, HN.out⟩⟩, by simp [intOf]; omega⟩
          have := HD.out
          omega
        · have t : (c.toNat : Int) < 48 := by assumption
          have HN := Lib.hid (show rget 10 l 0 = none by rw [HR.out, if_neg]; rintro ⟨h1, h2, _⟩; omega)
          go_ret2
          exact ⟨by rw [HN.out]; rfl, rfl⟩
    · have HE := Lib.hid (show rget 10 l 0 = if (l.drop k).all (· == 32) then some n else none by
        rw [HI.out.2, List.drop_of_length_le (by omega)]; rfl)
      go_wp2
      go_loop [7] (fun i => ∃ j : Nat, j ≤ l.length ∧ i = .int .i64 j ∧ Hid (rget 10 l 0 = if (l.drop j).all (· == 32) then some n else none)) (fun i => l.length - (intOf i).toNat)
      case atStart => exact ⟨k, hk, rfl, HE⟩
      case round =>
        obtain ⟨j, hj, rfl, HJ⟩ := hrel
        by_cases hjl : j < l.length
        · obtain ⟨c2, HC2⟩ : ∃ c2, Hid (l[j] = c2) := ⟨_, Lib.hid rfl⟩
          have hix2 : (⟨l.toArray⟩ : ByteArray)[j]'(by show j < l.toArray.size; simpa using hjl) = c2 := HC2.out
          by_cases hc2 : c2 = 32
          · have HS := Lib.hid (show rget 10 l 0 = if (l.drop (j + 1)).all (· == 32) then some n else none by
              rw [HJ.out, List.drop_eq_getElem_cons hjl, HC2.out, hc2]; simp)
            subst hc2
            go_wp2
            go_round
            case rel => exact ⟨j + 1, by omega, by go_num, HS⟩
            case measure => simp [intOf]; omega
          · have HS := Lib.hid (show rget 10 l 0 = none by
              rw [HJ.out, List.drop_eq_getElem_cons hjl, HC2.out, if_neg (by simp [hc2])])
            have e3 : ((c2.toNat : Int) != 32) = true := by
              have : c2.toNat ≠ 32 := fun h => hc2 (UInt8.toNat_inj.1 h)
              simp; omega
            go_wp2
            go_ret2
            exact ⟨by rw [HS.out]; rfl, rfl⟩
        · have HS := Lib.hid (show rget 10 l 0 = some n by
            rw [HJ.out, List.drop_of_length_le (by omega)]; rfl)
          go_wp2
          go_ret2
          exact ⟨by rw [HS.out]; rfl, rfl⟩
end Go.Proofs.YtnjaijmodkfnjaaDoor

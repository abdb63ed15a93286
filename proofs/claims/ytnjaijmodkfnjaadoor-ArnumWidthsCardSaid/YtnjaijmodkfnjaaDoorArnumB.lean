/- Contracts over this translation: arnum.Pad, Put, Width, Fits, Get at other bases. -/
import Derived.Test.YtnjaijmodkfnjaaDoorArnumA
namespace Go.Proofs.YtnjaijmodkfnjaaDoor
set_option linter.unusedVariables false
set_option linter.unusedSimpArgs false
open Go.RowKit Go.Shelf

theorem str_append (a b : List UInt8) : (⟨(a ++ b).toArray⟩ : ByteArray) = ⟨a.toArray⟩ ++ ⟨b.toArray⟩ := by
  apply ByteArray.ext; simp
theorem decDigits_bdig (u : Nat) : Lib.decDigits u = bdig 10 u := by
  induction u using Nat.strongRecOn with
  | _ u ih =>
    by_cases h : u < 10
    · rw [Lib.decDigits, dif_pos h, bdig_small h]; unfold dch; rw [if_pos h]
    · rw [Lib.decDigits, dif_neg h, bdig_big (by decide) (by omega), ih (u / 10) (by omega)]; unfold dch; rw [if_pos (by omega)]
theorem bdig_length_le (b u : Nat) (hb : 2 ≤ b) (m : Nat) (h : u < b ^ m) (hm : 1 ≤ m) : (bdig b u).length ≤ m := by
  induction m generalizing u with
  | zero => omega
  | succ m ih =>
    by_cases hu : u < b
    · rw [bdig_small hu]; simp
    · rw [bdig_big hb (by omega)]
      have hm1 : 1 ≤ m := by
        rcases Nat.eq_zero_or_pos m with rfl | h'
        · simp at h; omega
        · exact h'
      have := ih (u / b) (Nat.div_lt_of_lt_mul (by rw [Nat.mul_comm, ← Nat.pow_succ]; exact h)) hm1
      simp; omega
theorem repeatL_one (c : UInt8) (n : Nat) : Lib.repeatL [c] n = List.replicate n c := by
  induction n with
  | zero => rfl
  | succ n ih => rw [List.replicate_succ, ← ih]; rfl

theorem repeat_blank (d : Nat) (hd : d ≤ 1000000) (w : World) :
    Calls Tryd.prog 20 #[.string ⟨#[32]⟩, .int .i64 d] w fun e w' => e = .returned (.string ⟨(List.replicate d 32).toArray⟩) ∧ Below w.heap.size w w' := by
  have h := Tryd.strings_Repeat ⟨#[32]⟩ d w (by omega) (by rw [show (⟨#[32]⟩ : ByteArray).size = 1 from rfl]; omega)
  rw [show (⟨#[32]⟩ : ByteArray).data.toList = [32] from rfl, repeatL_one] at h
  exact h
theorem get_other (s : ByteArray) (b : Int) (h8 : b ≠ 8) (h10 : b ≠ 10) (w : World) :
    Calls Tryd.prog 9 #[.string s, .int .i64 b] w fun e w' => e = .returned (.tuple #[.int .u64 0, .bool false]) ∧ w' = w := by
  have e1 : (b != 8) = true := by simpa using h8
  have e2 : (b != 10) = true := by simpa using h10
  go_enter Tryd.func9, Tryd.ntmps9
  go_wp2
  go_ret2
  exact ⟨rfl, rfl⟩

/-- What Pad gives. -/
def padS (l : List UInt8) (wd : Int) : List UInt8 := if wd < l.length then [] else l ++ List.replicate (wd.toNat - l.length) 32
def padB (l : List UInt8) (wd : Int) : Bool := if wd < l.length then false else true
theorem pad_any (l : List UInt8) (wd : Int) (hw : wd ≤ 1000000) (w : World) :
    Calls Tryd.prog 13 #[.string ⟨l.toArray⟩, .int .i64 wd] w fun e w' => e = .returned (.tuple #[.string ⟨(padS l wd).toArray⟩, .bool (padB l wd)]) ∧ Below w.heap.size w w' := by
  by_cases h : wd < l.length
  · have H := Lib.hid (show padS l wd = [] from if_pos h)
    have H2 := Lib.hid (show padB l wd = false from if_pos h)
    go_enter Tryd.func13, Tryd.ntmps13
    go_wp2
    go_ret2
    exact ⟨by rw [H.out, H2.out]; rfl, Below.refl _ _⟩
  · obtain ⟨d, rfl⟩ : ∃ d : Nat, wd = l.length + d := ⟨(wd - l.length).toNat, by omega⟩
    have e : padS l (l.length + d) = l ++ List.replicate d 32 := by
      unfold padS; rw [if_neg (by omega), show (((l.length : Int) + d).toNat - l.length) = d by omega]
    have H := Lib.hid e
    have H2 := Lib.hid (show padB l (l.length + d) = true from if_neg (by omega))
    clear e
    have hl : l.length ≤ 1000000 := by omega
    have hd : d ≤ 1000000 := by omega
    have hsub : (l.length : Int) + d - l.length = d := by omega
    go_enter Tryd.func13, Tryd.ntmps13
    go_wp2_with (go_at_call 20; refine (repeat_blank d hd _).mono ?_; rintro e w' ⟨rfl, hb⟩)
    go_ret2
    exact ⟨by rw [H.out, H2.out, str_append]; simp, hb⟩

theorem put_8 (n : Nat) (hn : n < 18446744073709551616) (wd : Int) (hw : wd ≤ 1000000) (w : World) (ht : Tabs w) :
    Calls Tryd.prog 8 #[.int .u64 n, .int .i64 8, .int .i64 wd] w fun e w' => e = .returned (.tuple #[.string ⟨(padS (bdig 8 n) wd).toArray⟩, .bool (padB (bdig 8 n) wd)]) ∧ Below w.heap.size w w' := by
  have HF := Lib.hid (FormatUint_8 n hn _ ht)
  go_enter Tryd.func8, Tryd.ntmps8
  go_wp2_with (first
    | (go_at_call 16; refine HF.out.mono ?_; rintro e w' ⟨rfl, hb⟩)
    | (go_at_call 13; refine (pad_any (bdig 8 n) wd hw _).mono ?_; rintro e w2 ⟨rfl, hb2⟩))
  go_ret2
  exact ⟨rfl, below_step hb hb2⟩
theorem put_10 (n : Nat) (hn : n < 18446744073709551616) (wd : Int) (hw : wd ≤ 1000000) (w : World) (ht : Tabs w) :
    Calls Tryd.prog 8 #[.int .u64 n, .int .i64 10, .int .i64 wd] w fun e w' => e = .returned (.tuple #[.string ⟨(padS (bdig 10 n) wd).toArray⟩, .bool (padB (bdig 10 n) wd)]) ∧ Below w.heap.size w w' := by
  have HF := Lib.hid (FormatUint_10 n hn _ ht)
  rw [decDigits_bdig] at HF
  go_enter Tryd.func8, Tryd.ntmps8
  go_wp2_with (first
    | (go_at_call 16; refine HF.out.mono ?_; rintro e w' ⟨rfl, hb⟩)
    | (go_at_call 13; refine (pad_any (bdig 10 n) wd hw _).mono ?_; rintro e w2 ⟨rfl, hb2⟩))
  go_ret2
  exact ⟨rfl, below_step hb hb2⟩
end Go.Proofs.YtnjaijmodkfnjaaDoor

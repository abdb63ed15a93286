/- Contracts over this translation: cells.Hex, cells.Dec. -/
import Derived.Test.YtipnoeffahnfaaaDoorFmtC
import Derived.Test.YtipnoeffahnfaaaDoorBridge
namespace Go.Proofs.YtipnoeffahnfaaaDoor
set_option linter.unusedVariables false
set_option linter.unusedSimpArgs false
open Go.RowKit Go.Proofs.YtipnoeffahnfaaaDoorW.PrintWords Go.Proofs.YtipnoeffahnfaaaDoorW.PrintLast Go.Proofs.YtipnoeffahnfaaaDoorW.PrintMore
attribute [local go_sem] max2_int min2_int max_two min_two

/-- So many noughts. -/
def padL (x : Int) : List UInt8 := List.replicate x.toNat 48
theorem padL_len (x : Int) : (padL x).length = x.toNat := by unfold padL; simp
theorem repeat_one (c : UInt8) : ∀ n, Lib.repeatL [c] n = List.replicate n c
  | 0 => rfl
  | n + 1 => by unfold Lib.repeatL; rw [repeat_one c n]; rfl
theorem noughts_any (x : Int) (h0 : 0 ≤ x) (h1 : x ≤ 1000) (w : World) : Calls Tryd.prog 20 #[.string ⟨#[48]⟩, .int .i64 x] w fun e w' => e = .returned (.string ⟨(padL x).toArray⟩) ∧ Below w.heap.size w w' := by
  obtain ⟨n, rfl⟩ := Int.eq_ofNat_of_zero_le h0
  have h := Tryd.strings_Repeat ⟨#[48]⟩ n w (by omega) (by show 1 * n ≤ _; omega)
  have e : Lib.repeatL (⟨#[48]⟩ : ByteArray).data.toList n = padL n := by
    show Lib.repeatL [48] n = _
    rw [repeat_one]; rfl
  rw [e] at h
  exact h
/-- What pads a number: noughts up to a width. -/
def padN (width : Int) (len : Nat) : Int := (if (if 16 < width then 16 else width) < (len : Int) then (len : Int) else (if 16 < width then 16 else width)) - (len : Int)
def hexR (n : Nat) (width : Int) : List UInt8 := padL (padN width (bdig 16 n).length) ++ bdig 16 n
theorem bdig_len (b : Nat) (hb : 2 ≤ b) : ∀ (k n : Nat), n < b ^ k → 0 < k → (bdig b n).length ≤ k
  | 0, n, _, h => by omega
  | k + 1, n, h, _ => by
    by_cases hs : n < b
    · rw [bdig_small hs]; simp
    · rw [bdig_big hb (by omega), List.length_append, List.length_singleton]
      have hk : 0 < k := by
        rcases Nat.eq_zero_or_pos k with h0 | h0
        · subst h0; simp at h; omega
        · exact h0
      have := bdig_len b hb k (n / b) (by rw [Nat.div_lt_iff_lt_mul (by omega)]; rw [Nat.pow_succ] at h; exact h) hk
      omega
theorem hex_len (n : Nat) (hn : n < 18446744073709551616) : (bdig 16 n).length ≤ 16 := bdig_len 16 (by decide) 16 n (by simpa using hn) (by decide)
set_option maxRecDepth 100000 in
set_option maxHeartbeats 1000000 in
theorem hex_any (n : Nat) (hn : n < 18446744073709551616) (width : Int) (h0 : -9223372036854775808 ≤ width) (h1 : width ≤ 9223372036854775807) (w : World) (ht : Tabs w) :
    Calls Tryd.prog 8 #[.int .u64 n, .int .i64 width] w fun e w' => e = .returned (.string ⟨(hexR n width).toArray⟩) ∧ Below w.heap.size w w' := by
  have hl := hex_len n hn
  have HF := Lib.hid (fun W h => FormatUint_16 n hn W h)
  have HT := Lib.hid ht
  clear ht
  obtain ⟨s, hs⟩ : ∃ s, s = bdig 16 n := ⟨_, rfl⟩
  rw [← hs] at HF hl
  have HR := Lib.hid (show hexR n width = padL (padN width s.length) ++ s by rw [hs]; rfl)
  clear hs
  by_cases ha : (16 : Int) < width
  · have hb : ¬ (16 : Int) < (s.length : Int) := by omega
    have hp : padN width s.length = 16 - (s.length : Int) := by unfold padN; rw [if_pos ha, if_neg hb]
    have hpl := padL_len (16 - (s.length : Int))
    have hc : ¬ (9223372036854775807 < (padL (16 - (s.length : Int))).length + s.length) := by omega
    have HP := Lib.hid hp
    clear hp hpl
    go_enter Tryd.func8, Tryd.ntmps8
    go_wp2_with (first
      | (go_at_call 19; refine (HF.out _ HT.out).mono ?_; rintro e w1 ⟨rfl, hb1⟩; have HB1 := Lib.hid hb1; clear hb1)
      | (go_at_call 20; refine (noughts_any _ (by omega) (by omega) _).mono ?_; rintro e w2 ⟨rfl, hb2⟩; have HB2 := Lib.hid hb2; clear hb2))
    go_ret
    exact ⟨by rw [HR.out, HP.out]; rfl, HB1.out.trans (HB2.out.mono HB1.out.size)⟩
  · by_cases hb : width < (s.length : Int)
    · have hp : padN width s.length = 0 := by unfold padN; rw [if_neg ha, if_pos hb]; omega
      have hpl := padL_len 0
      have hc : ¬ (9223372036854775807 < (padL 0).length + s.length) := by rw [hpl]; simp; omega
      have HP := Lib.hid hp
      clear hp hpl
      go_enter Tryd.func8, Tryd.ntmps8
      go_wp2_with (first
        | (go_at_call 19; refine (HF.out _ HT.out).mono ?_; rintro e w1 ⟨rfl, hb1⟩; have HB1 := Lib.hid hb1; clear hb1)
        | (go_at_call 20; refine (noughts_any _ (by omega) (by omega) _).mono ?_; rintro e w2 ⟨rfl, hb2⟩; have HB2 := Lib.hid hb2; clear hb2))
      go_ret
      exact ⟨by rw [HR.out, HP.out]; rfl, HB1.out.trans (HB2.out.mono HB1.out.size)⟩
    · have hp : padN width s.length = width - (s.length : Int) := by unfold padN; rw [if_neg ha, if_neg hb]
      have hpl := padL_len (width - (s.length : Int))
      have hc : ¬ (9223372036854775807 < (padL (width - (s.length : Int))).length + s.length) := by omega
      have HP := Lib.hid hp
      clear hp hpl
      go_enter Tryd.func8, Tryd.ntmps8
      go_wp2_with (first
        | (go_at_call 19; refine (HF.out _ HT.out).mono ?_; rintro e w1 ⟨rfl, hb1⟩; have HB1 := Lib.hid hb1; clear hb1)
        | (go_at_call 20; refine (noughts_any _ (by omega) (by omega) _).mono ?_; rintro e w2 ⟨rfl, hb2⟩; have HB2 := Lib.hid hb2; clear hb2))
      go_ret
      exact ⟨by rw [HR.out, HP.out]; rfl, HB1.out.trans (HB2.out.mono HB1.out.size)⟩
theorem dec_any (n : Nat) (hn : n < 18446744073709551616) (w : World) (ht : Tabs w) :
    Calls Tryd.prog 10 #[.int .u64 n] w fun e w' => e = .returned (.string ⟨(Lib.decDigits n).toArray⟩) ∧ Below w.heap.size w w' := by
  go_enter Tryd.func10, Tryd.ntmps10
  go_wp2_with (go_at_call 19; refine (FormatUint_10 n hn _ ht).mono ?_; rintro e w1 ⟨rfl, hb1⟩)
  go_ret
  exact ⟨rfl, hb1⟩
end Go.Proofs.YtipnoeffahnfaaaDoor

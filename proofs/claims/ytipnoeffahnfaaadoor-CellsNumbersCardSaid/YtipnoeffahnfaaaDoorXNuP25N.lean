/- Plain laws: CellsNumbers comes to true; its walk. -/
import Derived.Test.YtipnoeffahnfaaaDoorXNuP25B
namespace Go.Proofs.YtipnoeffahnfaaaDoorX.Nu
set_option linter.unusedVariables false
set_option linter.unusedSimpArgs false
open Go.RowKit Go.Proofs.YtipnoeffahnfaaaDoor Go.Proofs.YtipnoeffahnfaaaDoorW.PrintWords Go.Proofs.YtipnoeffahnfaaaDoorW.PrintLast Go.Proofs.YtipnoeffahnfaaaDoorW.PrintMore

theorem u64w {x : Int} (h0 : 0 ≤ x) (h1 : x ≤ 18446744073709551615) : IntKind.u64.wrap x = x := by rw [IntKind.wrap_u64]; omega
def hexB : ByteArray := ⟨#[48, 49, 50, 51, 52, 53, 54, 55, 56, 57, 97, 98, 99, 100, 101, 102]⟩
theorem hex_cut : ∀ i, i < 16 → hexB.extract i (i + 1) = bb [dch i] := by decide +kernel
theorem bb_cat (a b : List UInt8) : bb a ++ bb b = bb (a ++ b) := by
  unfold bb; apply ByteArray.ext; rw [ByteArray.data_append]; apply Array.ext'; simp
theorem bb_ne {l : List UInt8} (h : l ≠ []) : ¬ (bb l).toList = [] := by rw [bb_toList]; exact h
theorem pad_ev (width : Int) : ∀ (d : Nat) (s : List UInt8), s.length + d = 16 → Ev (fun k => graverref25_Hex.l1 k width (bb s)) (bb (padL (padN width s.length) ++ s))
  | 0, s, hd => by
    have hp : padL (padN width s.length) = [] := by
      unfold padL
      rw [List.replicate_eq_nil_iff]
      unfold padN; split <;> split <;> omega
    rw [hp]
    refine Ev.step (f := fun _ => some (bb s)) (fun k => ?_) (Ev.now _)
    simp only [graverref25_Hex.l1]
    rw [bb_size]
    by_cases h : (s.length : Int) < width
    · rw [if_pos h, if_neg (by omega)]
    · rw [if_neg h]
  | d + 1, s, hd => by
    by_cases h : (s.length : Int) < width
    · have ih := pad_ev width d (48 :: s) (by simp; omega)
      have hp : padL (padN width (48 :: s).length) ++ (48 :: s) = padL (padN width s.length) ++ s := by
        have h1 : padN width s.length = padN width (48 :: s).length + 1 ∧ 0 ≤ padN width (48 :: s).length := by
          rw [List.length_cons]
          unfold padN; push_cast; split <;> split <;> split <;> omega
        unfold padL
        rw [h1.1, show (padN width (48 :: s).length + 1).toNat = (padN width (48 :: s).length).toNat + 1 by omega, List.replicate_succ']
        simp
      rw [hp] at ih
      refine Ev.step (f := fun k => graverref25_Hex.l1 k width (bb (48 :: s))) (fun k => ?_) ih
      simp only [graverref25_Hex.l1]
      rw [bb_size, if_pos h, if_pos (by omega), if_pos (by omega)]
      rw [show (⟨#[48]⟩ : ByteArray) = bb [48] from rfl, bb_cat]
      rfl
    · have hp : padL (padN width s.length) = [] := by
        unfold padL
        rw [List.replicate_eq_nil_iff]
        unfold padN; split <;> split <;> omega
      rw [hp]
      refine Ev.step (f := fun _ => some (bb s)) (fun k => ?_) (Ev.now _)
      simp only [graverref25_Hex.l1]
      rw [bb_size, if_neg h]
/-- One digit more. -/
theorem hex_step (k : Nat) (n : Nat) (hn : n < 18446744073709551616) (width : Int) (acc : List UInt8) (ha : acc.length ≤ 1000) (h : 0 < n ∨ acc = []) :
    graverref25_Hex.l0 (k + 1) (n : Int) width hexB (bb acc) = graverref25_Hex.l0 k ((n / 16 : Nat) : Int) width hexB (bb (dch (n % 16) :: acc)) := by
  have h1 : Int.tmod (n : Int) 16 = ((n % 16 : Nat) : Int) := rfl
  have h2 : Int.tdiv (n : Int) 16 = ((n / 16 : Nat) : Int) := rfl
  have hlt : n % 16 < 16 := Nat.mod_lt _ (by decide)
  have hw : IntKind.u64.wrap (((n % 16 : Nat) : Int) + 1) = ((n % 16 + 1 : Nat) : Int) := by rw [u64w (by omega) (by omega)]; rfl
  have hw2 : IntKind.u64.wrap ((n / 16 : Nat) : Int) = ((n / 16 : Nat) : Int) := u64w (by omega) (by omega)
  have hcut : hexB.extract (((n % 16 : Nat) : Int)).toNat (((n % 16 + 1 : Nat) : Int)).toNat = bb [dch (n % 16)] := by
    rw [Int.toNat_natCast, Int.toNat_natCast]; exact hex_cut _ hlt
  have hsz : (hexB.size : Int) = 16 := rfl
  have hlen : (bb [dch (n % 16)]).size + (bb acc).size ≤ 9223372036854775807 := by rw [bb_size, bb_size]; simp; omega
  simp only [graverref25_Hex.l0]
  rw [h1, h2, hw, hw2, hcut, hsz]
  by_cases h0 : (n : Int) > 0
  · rw [if_pos h0, if_pos (by omega), if_pos (by omega), if_pos (by omega), if_pos hlen, bb_cat]; rfl
  · have hac : acc = [] := h.resolve_left (by omega)
    rw [if_neg h0, if_pos (by rw [bb_toList]; exact hac), if_pos (by omega), if_pos (by omega), if_pos (by omega), if_pos hlen, bb_cat]; rfl
theorem hex_done (k : Nat) (width : Int) (acc : List UInt8) (ha : acc ≠ []) : graverref25_Hex.l0 (k + 1) 0 width hexB (bb acc) = graverref25_Hex.l1 k width (bb acc) := by
  simp only [graverref25_Hex.l0]
  rw [if_neg (by omega), if_neg (bb_ne ha)]
theorem hex_ev (width : Int) (r : ByteArray) : ∀ (n : Nat) (acc : List UInt8), n < 18446744073709551616 → acc.length + (bdig 16 n).length ≤ 1000 → (0 < n ∨ acc = []) →
    Ev (fun k => graverref25_Hex.l1 k width (bb (bdig 16 n ++ acc))) r → Ev (fun k => graverref25_Hex.l0 k (n : Int) width hexB (bb acc)) r := by
  intro n
  induction n using Nat.strongRecOn with
  | ind n ih =>
    intro acc hn ha h hr
    refine Ev.step (fun k => hex_step k n hn width acc (by omega) h) ?_
    by_cases hs : n < 16
    · rw [bdig_small hs] at hr
      rw [show n / 16 = 0 by omega, show n % 16 = n by omega]
      exact Ev.step (fun k => hex_done k width _ (by simp)) hr
    · have hb := bdig_big (b := 16) (u := n) (by decide) (by omega)
      rw [hb] at hr ha
      rw [List.append_assoc] at hr
      rw [List.length_append, List.length_singleton] at ha
      exact ih (n / 16) (by omega) _ (by omega) (by rw [List.length_cons]; omega) (.inl (by omega)) hr
theorem refHex_f (n : Nat) (hn : n < 18446744073709551616) (width : Int) : Ev (fun k => graverref25_Hex.f k (n : Int) width) (bb (hexR n width)) := by
  have hl := hex_len n hn
  refine Ev.congr (fun k => ?_) (hex_ev width _ n [] hn (by simp; omega) (.inr rfl) ?_)
  · rfl
  · rw [List.append_nil]
    exact pad_ev width (16 - (bdig 16 n).length) (bdig 16 n) (by omega)
/-- The law's own digits. -/
def lastD (n : Nat) : UInt8 := UInt8.ofNat (48 + n % 10)
theorem dec_small {n : Nat} (h : n < 10) : Lib.decDigits n = [lastD n] := by rw [Lib.decDigits_one h]; unfold lastD; rw [show n % 10 = n by omega]
theorem dec_big {n : Nat} (h : ¬ n < 10) : Lib.decDigits n = Lib.decDigits (n / 10) ++ [lastD n] := by rw [Lib.decDigits, dif_neg h]; rfl
theorem dec_step (k : Nat) (x width : Int) (n : Nat) (hn : n < 18446744073709551616) (acc : List UInt8) (ha : acc.length ≤ 1000) (h : 0 < n ∨ acc = []) :
    graverlaw25_CellsNumbers.l0 (k + 1) x width (bb acc) (n : Int) = graverlaw25_CellsNumbers.l0 k x width (bb (lastD n :: acc)) ((n / 10 : Nat) : Int) := by
  have h1 : Int.tmod (n : Int) 10 = ((n % 10 : Nat) : Int) := rfl
  have h2 : Int.tdiv (n : Int) 10 = ((n / 10 : Nat) : Int) := rfl
  have hlt : n % 10 < 10 := Nat.mod_lt _ (by decide)
  have hw : IntKind.u64.wrap (48 + ((n % 10 : Nat) : Int)) % 256 = ((48 + n % 10 : Nat) : Int) := by rw [u64w (by omega) (by omega)]; omega
  have hw2 : IntKind.u64.wrap ((n / 10 : Nat) : Int) = ((n / 10 : Nat) : Int) := u64w (by omega) (by omega)
  have hstr : strOfNums [((48 + n % 10 : Nat) : Int)] = bb [lastD n] := rfl
  have hlen : (bb [lastD n]).size + (bb acc).size ≤ 9223372036854775807 := by rw [bb_size, bb_size]; simp; omega
  simp only [graverlaw25_CellsNumbers.l0]
  rw [h1, h2, hw, hw2]
  simp only [Option.bind_some]
  rw [hstr]
  by_cases h0 : (n : Int) > 0
  · rw [if_pos h0, if_pos hlen, bb_cat]; rfl
  · have hac : acc = [] := h.resolve_left (by omega)
    rw [if_neg h0, if_pos (by rw [bb_toList]; exact hac), if_pos hlen, bb_cat]; rfl
theorem dec_len (n : Nat) (hn : n < 18446744073709551616) : (Lib.decDigits n).length ≤ 20 := by rw [Lib.decDigits_length]; exact Lib.nDigits_le20 n hn
theorem dec_ev (x width : Int) (r : Bool) : ∀ (n : Nat) (acc : List UInt8), n < 18446744073709551616 → acc.length + (Lib.decDigits n).length ≤ 1000 → (0 < n ∨ acc = []) →
    Ev (fun k => graverlaw25_CellsNumbers.l0 k x width (bb (Lib.decDigits n ++ acc)) 0) r → Ev (fun k => graverlaw25_CellsNumbers.l0 k x width (bb acc) (n : Int)) r := by
  intro n
  induction n using Nat.strongRecOn with
  | ind n ih =>
    intro acc hn ha h hr
    refine Ev.step (fun k => dec_step k x width n hn acc (by omega) h) ?_
    by_cases hs : n < 10
    · rw [dec_small hs] at hr
      rw [show n / 10 = 0 by omega]
      exact hr
    · have hb := dec_big hs
      rw [hb] at hr ha
      rw [List.append_assoc] at hr
      rw [List.length_append, List.length_singleton] at ha
      exact ih (n / 10) (by omega) _ (by omega) (by rw [List.length_cons]; omega) (.inl (by omega)) hr
theorem numbers_ev (n : Nat) (hn : n < 18446744073709551616) (width : Int) (h0 : -9223372036854775808 ≤ width) (h1 : width ≤ 9223372036854775807) : Ev (fun k => graverlaw25_CellsNumbers.f k (n : Int) width) true := by
  obtain ⟨K1, s1⟩ := speaks_ev
  obtain ⟨K2, s2⟩ := refHex_f n hn width
  have hx : cells_Hex.f (n : Int) width = some (bb (hexR n width)) := by
    unfold cells_Hex.f
    rw [if_pos (by omega), Int.toNat_natCast]; rfl
  have hd : cells_Dec.f (n : Int) = some (bb (Lib.decDigits n)) := by
    unfold cells_Dec.f
    rw [if_pos (by omega), Int.toNat_natCast]; rfl
  have hne : Lib.decDigits n ≠ [] := by
    by_cases hs : n < 10
    · rw [dec_small hs]; simp
    · rw [dec_big hs]; simp
  have hend : Ev (fun k => graverlaw25_CellsNumbers.l0 k (n : Int) width (bb (Lib.decDigits n ++ [])) 0) true := by
    refine ⟨K2 + 1, fun k hk => ?_⟩
    obtain ⟨k', rfl⟩ : ∃ k', k = k' + 1 := ⟨k - 1, by omega⟩
    have g := s2 k' (by omega)
    simp only [] at g
    simp only [graverlaw25_CellsNumbers.l0]
    rw [List.append_nil, if_neg (by omega), if_neg (bb_ne hne), hx, Option.bind_some, g, Option.bind_some, if_pos rfl, hd, Option.bind_some]
    simp
  obtain ⟨K3, s3⟩ := dec_ev (n : Int) width true n [] hn (by have := dec_len n hn; simp; omega) (.inr rfl) hend
  refine ⟨K1 + K3, fun k hk => ?_⟩
  have g1 := s1 k (by omega)
  have g3 := s3 k (by omega)
  simp only [] at g1 g3
  show graverlaw25_CellsNumbers.f k (n : Int) width = some true
  unfold graverlaw25_CellsNumbers.f
  rw [g1, Option.bind_some, if_pos rfl]
  exact g3
end Go.Proofs.YtipnoeffahnfaaaDoorX.Nu
namespace Go.Proofs.YtipnoeffahnfaaaDoor
open Go.RowKit Go.Proofs.YtipnoeffahnfaaaDoorX.Nu Go.Proofs.YtipnoeffahnfaaaDoorW.PrintWords
theorem numbers_walk (n : Nat) (hn : n < 18446744073709551616) (width : Int) (hb : -9223372036854775808 ≤ width ∧ width ≤ 9223372036854775807) (W : World) (hT : CelT W) :
    Calls Tryd.prog 3 #[.int .u64 n, .int .i64 width] W fun e w' => e = .returned (.bool true) ∧ Below W.heap.size W w' := by
  obtain ⟨k, hk⟩ := (numbers_ev n hn width hb.1 hb.2).rounds
  exact graverlaw25_CellsNumbers.calls k n width true W hT hk
end Go.Proofs.YtipnoeffahnfaaaDoor

/- Plain laws: the reference's Put and Get are the numbers' bytes. -/
import Derived.Test.YtcfbdnlbgcoicaaDoorXEntx2
import Derived.Test.YtcfbdnlbgcoicaaDoorDynJ
import Derived.Test.YtcfbdnlbgcoicaaDoorXEntx3
import Derived.Test.YtcfbdnlbgcoicaaDoorXEntx4
import Derived.Test.YtcfbdnlbgcoicaaDoorXEntx6
import Derived.Test.YtcfbdnlbgcoicaaDoorArgs2
namespace Go.Proofs.YtcfbdnlbgcoicaaDoorX.Ent
set_option linter.unusedVariables false
set_option linter.unusedSimpArgs false
open Go.RowKit Go.Proofs.YtcfbdnlbgcoicaaDoor Go.Proofs.YtcfbdnlbgcoicaaDoorW.PrintWords Go.Proofs.YtcfbdnlbgcoicaaDoorW.PrintLast Go.Proofs.YtcfbdnlbgcoicaaDoorW.PrintMore

/-- The bytes of a number, so many of the lowest, as the reference lays them. -/
def refB (big : Bool) (n : Nat) : Nat → List UInt8
  | 0 => []
  | i + 1 => if big then UInt8.ofNat (byt n i) :: refB big n i else refB big n i ++ [UInt8.ofNat (byt n i)]
theorem refB_length (big : Bool) (n : Nat) : ∀ i, (refB big n i).length = i
  | 0 => rfl
  | i + 1 => by unfold refB; split <;> simp [refB_length big n i]
theorem refB_eq (big : Bool) (n : Nat) : ∀ i, refB big n i = putL big n i
  | 0 => rfl
  | i + 1 => by
    cases big with
    | false =>
      unfold refB
      rw [refB_eq false n i]
      simp [putL, List.range_succ, plc]
    | true =>
      unfold refB
      rw [refB_eq true n i]
      simp only [if_true, putL]
      rw [List.range_succ_eq_map, List.map_cons, List.map_map]
      congr 1
      refine List.map_congr_left (fun p hp => ?_)
      simp only [Function.comp, plc, if_true]
      rw [show i + 1 - 1 - Nat.succ p = i - 1 - p by omega]
theorem put_round (big : Bool) (n size : Nat) (hn : n < 18446744073709551616) (h8 : size ≤ 8) : ∀ d i, i + d = size → ∀ q, q = n / 256 ^ i →
    Ev (fun k => graverref01_Put.l0 k big (q : Int) (size : Int) ⟨(refB big n i).toArray⟩ (i : Int)) (⟨(refB big n size).toArray⟩ : ByteArray) := by
  intro d
  induction d with
  | zero =>
    intro i hi q hq
    obtain rfl : i = size := by omega
    refine Ev.step (f := fun k => graverref01_Put.j1 k big (q : Int) (i : Int) ⟨(refB big n i).toArray⟩ (i : Int) false) (fun k => ?_) (Ev.step (f := fun _ => some (⟨(refB big n i).toArray⟩ : ByteArray)) (fun k => ?_) (Ev.now _))
    · simp only [graverref01_Put.l0]; rw [if_neg (by omega)]
    · simp [graverref01_Put.j1]
  | succ d ih =>
    intro i hi q hq
    have hq2 : q / 256 = n / 256 ^ (i + 1) := by rw [hq, Nat.pow_succ, Nat.div_div_eq_div_mul]
    have hb2 : byt n i = q % 256 := by rw [hq]; rfl
    have hlt : q < 18446744073709551616 := by rw [hq]; exact Nat.lt_of_le_of_lt (Nat.div_le_self _ _) hn
    have hih := ih (i + 1) (by omega) (q / 256) hq2
    clear hq hq2 ih
    have hrb : refB big n (i + 1) = if big then UInt8.ofNat (q % 256) :: refB big n i else refB big n i ++ [UInt8.ofNat (q % 256)] := by rw [← hb2]; rfl
    rw [hrb] at hih
    have hln := refB_length big n i
    generalize refB big n i = s at *
    refine Ev.step (f := fun k => graverref01_Put.j1 k big (q : Int) (size : Int) ⟨s.toArray⟩ (i : Int) true) (fun k => ?_) (Ev.step (fun k => ?_) hih)
    · simp only [graverref01_Put.l0]; rw [if_pos (by omega), show decide ((size : Int) ≤ 8) = true from decide_eq_true (by omega)]
    · have e1 : (Int.tmod (q : Int) 256) % 256 = ((q % 256 : Nat) : Int) := by
        rw [Int.tmod_eq_emod_of_nonneg (by omega)]; omega
      have e2 : IntKind.u64.wrap (Int.tdiv (q : Int) 256) = ((q / 256 : Nat) : Int) := by
        rw [Int.tdiv_eq_ediv_of_nonneg (by omega), IntKind.wrap_u64]
        omega
      have e3 : strOfNums [((q % 256 : Nat) : Int)] = ⟨[UInt8.ofNat (q % 256)].toArray⟩ := by simp only [strOfNums, List.map_cons, List.map_nil, Int.toNat_natCast]
      have e4 := wrap_up i (by omega)
      simp only [graverref01_Put.j1, if_true, Option.bind_some]
      rw [e1, e2, e3, e4]
      cases big with
      | true =>
        clear e1 e2 e3 e4
        have hs : (⟨[UInt8.ofNat (q % 256)].toArray⟩ : ByteArray).size + (⟨s.toArray⟩ : ByteArray).size ≤ 9223372036854775807 := by exact sum_small (by rw [hln, List.length_singleton]; omega)
        simp only [if_true]
        rw [if_pos hs, ba_app, List.singleton_append]
      | false =>
        clear e1 e2 e3 e4
        have hs : (⟨s.toArray⟩ : ByteArray).size + (⟨[UInt8.ofNat (q % 256)].toArray⟩ : ByteArray).size ≤ 9223372036854775807 := by exact sum_small (by rw [hln, List.length_singleton]; omega)
        simp only [Bool.false_eq_true, if_false]
        rw [if_pos hs, ba_app]
theorem put_ev (big : Bool) (n size : Nat) (hn : n < 18446744073709551616) (h8 : size ≤ 8) : Ev (fun k => graverref01_Put.f k big (n : Int) (size : Int)) (⟨(putL big n size).toArray⟩ : ByteArray) := by
  have h := put_round big n size hn h8 size 0 (by omega) n (by simp)
  rw [refB_eq big n size] at h
  exact h
end Go.Proofs.YtcfbdnlbgcoicaaDoorX.Ent

/- Plain laws: the reference's Get and Record. -/
namespace Go.Proofs.YtcfbdnlbgcoicaaDoorX.Ent
set_option linter.unusedVariables false
set_option linter.unusedSimpArgs false
open Go.RowKit Go.Proofs.YtcfbdnlbgcoicaaDoor Go.Proofs.YtcfbdnlbgcoicaaDoorW.PrintWords Go.Proofs.YtcfbdnlbgcoicaaDoorW.PrintLast Go.Proofs.YtcfbdnlbgcoicaaDoorW.PrintMore

theorem getN_mod (f : Nat → Nat) (hf : ∀ k, f k < 256) (n : Nat) : ∀ m, m < n → getN f n / 256 ^ m % 256 = f m := by
  induction n with
  | zero => intro m hm; omega
  | succ n ih =>
    intro m hm
    rw [getN]
    rcases Nat.lt_or_ge m n with h | h
    · have e : f n * 256 ^ n = 256 ^ m * (256 * (f n * 256 ^ (n - m - 1))) := by
        rw [show n = m + 1 + (n - m - 1) by omega, Nat.pow_add, Nat.pow_succ, show m + 1 + (n - m - 1) - m - 1 = n - m - 1 by omega]
        generalize f (m + 1 + (n - m - 1)) = a
        generalize 256 ^ (n - m - 1) = b
        generalize 256 ^ m = c
        rw [Nat.mul_left_comm a, Nat.mul_assoc]
      rw [e, Nat.add_mul_div_left _ _ (Nat.pow_pos (by decide)), Nat.add_mul_mod_self_left]
      exact ih m h
    · obtain rfl : m = n := by omega
      have hl := getN_lt f hf m
      rw [Nat.add_mul_div_right _ _ (Nat.pow_pos (by decide)), Nat.div_eq_of_lt hl, Nat.zero_add, Nat.mod_eq_of_lt (hf m)]
/-- The byte that the reference reads next, so many having been read. -/
theorem get_next (f : Nat → Nat) (hf : ∀ k, f k < 256) (n i : Nat) (hi : i < n) : 256 * (getN f n / 256 ^ (n - i)) + f (n - 1 - i) = getN f n / 256 ^ (n - (i + 1)) := by
  have h := getN_mod f hf n (n - 1 - i) (by omega)
  have e : n - i = (n - 1 - i) + 1 := by omega
  rw [e, Nat.pow_succ, ← Nat.div_div_eq_div_mul, ← h, show n - (i + 1) = n - 1 - i by omega]
  omega
theorem bt_list (l : List UInt8) (i : Nat) (h : i < l.length) : bt ⟨l.toArray⟩ (i : Int) = ((l.getD i 0).toNat : Int) := by
  unfold bt
  rw [dif_pos (by rw [ba_size]; simpa using h)]
  simp only [Int.toNat_natCast]
  congr 2
  rw [List.getD_eq_getElem?_getD, List.getElem?_eq_getElem h]
  rfl
theorem get_round (big : Bool) (l : List UInt8) (h8 : l.length ≤ 8) : ∀ d i, i + d = l.length → ∀ v, v = getL big l / 256 ^ (l.length - i) →
    Ev (fun k => graverref01_Get.l0 k big ⟨l.toArray⟩ (v : Int) (i : Int)) ((getL big l : Nat) : Int) := by
  have hL : getL big l < 18446744073709551616 := getL_lt8 big l h8
  have hf : ∀ k, (fun k => (l.getD (plc big l.length k) 0).toNat) k < 256 := fun k => UInt8.toNat_lt _
  intro d
  induction d with
  | zero =>
    intro i hi v hv
    obtain rfl : i = l.length := by omega
    rw [Nat.sub_self, Nat.pow_zero, Nat.div_one] at hv
    rw [hv]
    refine Ev.step (f := fun k => graverref01_Get.j1 k big ⟨l.toArray⟩ ((getL big l : Nat) : Int) (l.length : Int) false) (fun k => ?_) (Ev.step (f := fun _ => some ((getL big l : Nat) : Int)) (fun k => ?_) (Ev.now _))
    · simp only [graverref01_Get.l0]; rw [if_neg (by rw [ba_size]; omega)]
    · simp [graverref01_Get.j1]
  | succ d ih =>
    intro i hi v hv
    have hn := get_next _ hf l.length i (by omega)
    have hvl : v < 18446744073709551616 := by rw [hv]; exact Nat.lt_of_le_of_lt (Nat.div_le_self _ _) hL
    have hnl : getL big l / 256 ^ (l.length - (i + 1)) < 18446744073709551616 := Nat.lt_of_le_of_lt (Nat.div_le_self _ _) hL
    have hih := ih (i + 1) (by omega) _ rfl
    obtain ⟨c, hc⟩ : ∃ c, c = (l.getD (plc big l.length (l.length - 1 - i)) 0).toNat := ⟨_, rfl⟩
    have hc2 : c < 256 := by rw [hc]; exact UInt8.toNat_lt _
    have hn2 : 256 * v + c = getL big l / 256 ^ (l.length - (i + 1)) := by rw [hv, hc]; exact hn
    rw [← hn2] at hih hnl
    clear hn hn2 hv ih
    refine Ev.step (f := fun k => graverref01_Get.j1 k big ⟨l.toArray⟩ (v : Int) (i : Int) true) (fun k => ?_) (Ev.step (fun k => ?_) hih)
    · simp only [graverref01_Get.l0]; rw [if_pos (by rw [ba_size]; omega), show decide (((⟨l.toArray⟩ : ByteArray).size : Int) ≤ 8) = true from decide_eq_true (by rw [ba_size]; omega)]
    · have e4 := wrap_up i (by omega)
      have hb : ∀ c : Nat, c < 256 → 256 * v + c < 18446744073709551616 → IntKind.u64.wrap ((IntKind.u64.wrap (256 * (v : Int))) + (IntKind.u64.wrap (c : Int))) = ((256 * v + c : Nat) : Int) := by
        intro c h1 h2
        rw [IntKind.wrap_u64, IntKind.wrap_u64, IntKind.wrap_u64]; omega
      have hbc := hb c hc2 hnl
      simp only [graverref01_Get.j1, if_true]
      cases big with
      | true =>
        have hi2 : bt ⟨l.toArray⟩ (i : Int) = (c : Int) := by rw [bt_list l i (by omega), hc, plc, if_pos rfl, show l.length - 1 - (l.length - 1 - i) = i by omega]
        simp only [if_true]
        rw [if_pos (by omega), if_pos (by rw [ba_size]; omega), hi2, hbc, e4]
      | false =>
        have e5 : wrap64 ((wrap64 (((⟨l.toArray⟩ : ByteArray).size : Int) - 1)) - (i : Int)) = ((l.length - 1 - i : Nat) : Int) := by
          rw [ba_size, wrap_s (x := (l.length : Int) - 1) (by omega) (by omega), wrap_s (by omega) (by omega)]; omega
        have hi2 : bt ⟨l.toArray⟩ ((l.length - 1 - i : Nat) : Int) = (c : Int) := by rw [bt_list l _ (by omega), hc, plc]; simp
        simp only [Bool.false_eq_true, if_false]
        rw [e5, if_pos (by omega), if_pos (by rw [ba_size]; omega), hi2, hbc, e4]
theorem get_ev (big : Bool) (l : List UInt8) (h8 : l.length ≤ 8) : Ev (fun k => graverref01_Get.f k big ⟨l.toArray⟩) ((getL big l : Nat) : Int) := by
  refine get_round big l h8 l.length 0 (by omega) 0 ?_
  rw [Nat.sub_zero, Nat.div_eq_of_lt (getL_lt big l)]
/-- One number of a record that stands for a word. -/
theorem rec_round (wide big : Bool) (zs ns : List Int) (acc : List UInt8) (i n : Nat) (hz : i < zs.length) (hz0 : rd zs (i : Int) = 0) (hi : i < ns.length) (hnn : rd ns (i : Int) = (n : Int)) (hn : n < 18446744073709551616) (hacc : acc.length ≤ 100000) (hi2 : i ≤ 1000) (r : ByteArray × Bool)
    (h : Ev (fun k => if n < 256 ^ wordN wide then graverref04_Record.l0 k wide big zs ns ⟨(acc ++ putL big n (wordN wide)).toArray⟩ ((i + 1 : Nat) : Int) else some ((⟨#[]⟩ : ByteArray), false)) r) :
    Ev (fun k => graverref04_Record.l0 k wide big zs ns ⟨acc.toArray⟩ (i : Int)) r := by
  have hw : wordN wide = 8 ∨ wordN wide = 4 := by unfold wordN; cases wide <;> simp
  have hput := put_ev big n (wordN wide) hn (by omega)
  have hpl := putL_length big n (wordN wide)
  have hget := get_ev big (putL big n (wordN wide)) (by omega)
  rw [getL_putL] at hget
  have hj3 : Ev (fun k => graverref04_Record.j3 k wide big zs ns ⟨acc.toArray⟩ (i : Int) (wordN wide : Int)) r := by
    refine Ev.step (f := fun k => (graverref01_Put.f k big (n : Int) (wordN wide : Int)).bind fun t => (if t.toList = ([] : List UInt8) then (some ((⟨#[]⟩ : ByteArray), false)) else ((graverref01_Get.f k big t).bind fun g => (if g = (n : Int) then (if (⟨acc.toArray⟩ : ByteArray).size + t.size ≤ 9223372036854775807 then (graverref04_Record.l0 k wide big zs ns (⟨acc.toArray⟩ ++ t) (wrap64 ((i : Int) + 1))) else (none)) else (some ((⟨#[]⟩ : ByteArray), false)))))) (fun k => ?_) ?_
    · simp only [graverref04_Record.j3]
      rw [if_pos (by omega), if_pos (by omega), hnn]
    refine Ev.bind hput ?_
    simp only [ba_list]
    have hne : ¬ putL big n (wordN wide) = [] := by intro h; rw [h] at hpl; simp at hpl; omega
    simp only [if_neg hne]
    refine Ev.bind hget ?_
    have e4 := wrap_up i (by omega)
    have hs : (⟨acc.toArray⟩ : ByteArray).size + (⟨(putL big n (wordN wide)).toArray⟩ : ByteArray).size ≤ 9223372036854775807 := sum_small (by omega)
    simp only [if_pos hs, ba_app, e4]
    by_cases hlt : n < 256 ^ wordN wide
    · simp only [Nat.mod_eq_of_lt hlt, if_true]
      simpa only [if_pos hlt] using h
    · have hm : ¬ ((n % 256 ^ wordN wide : Nat) : Int) = (n : Int) := by
        have := Nat.mod_lt n (show 0 < 256 ^ wordN wide from Nat.pow_pos (by decide))
        omega
      simp only [if_neg hm]
      simpa only [if_neg hlt] using h
  refine Ev.step (f := fun k => graverref04_Record.j1 k wide big zs ns ⟨acc.toArray⟩ (i : Int) (rd zs i) wide) (fun k => ?_) ?_
  · simp only [graverref04_Record.l0]
    rw [if_pos (by omega), if_pos (by omega), if_pos (by omega), if_pos hz0]
  · rw [hz0]
    cases wide with
    | true =>
      refine Ev.step (f := fun k => graverref04_Record.j2 k true big zs ns ⟨acc.toArray⟩ (i : Int) 8) (fun k => ?_) (Ev.step (fun k => ?_) hj3)
      · simp [graverref04_Record.j1]
      · simp [graverref04_Record.j2, wordN]
    | false =>
      refine Ev.step (f := fun k => graverref04_Record.j2 k false big zs ns ⟨acc.toArray⟩ (i : Int) 0) (fun k => ?_) (Ev.step (fun k => ?_) hj3)
      · simp [graverref04_Record.j1]
      · simp [graverref04_Record.j2, wordN]
theorem fits_word (wide : Bool) (n : Nat) (hn : n < 18446744073709551616) : fitsB n (szOf wide 0) = decide (n < 256 ^ wordN wide) := by
  unfold fitsB szOf wordN
  cases wide with
  | true => simp; omega
  | false => simp [Nat.div_eq_zero_iff]
/-- A record of two words. -/
theorem rec2_ev (wide big : Bool) (x y : Nat) (hx : x < 18446744073709551616) (hy : y < 18446744073709551616) :
    Ev (fun k => graverref04_Record.f k wide big [0, 0] [(x : Int), (y : Int)]) (⟨(entL big wide (x, y)).toArray⟩, entFit wide (x, y)) := by
  unfold graverref04_Record.f
  simp only [List.length_cons, List.length_nil, if_true]
  have hw : wordN wide ≤ 8 := by unfold wordN; split <;> omega
  have hfit : entFit wide (x, y) = (decide (x < 256 ^ wordN wide) && decide (y < 256 ^ wordN wide)) := by
    unfold entFit
    simp only [List.map_cons, List.map_nil, allFit, fits_word wide x hx, fits_word wide y hy, Bool.and_true]
  refine rec_round wide big [0, 0] [(x : Int), (y : Int)] [] 0 x (by simp) rfl (by simp) rfl hx (by simp) (by omega) _ ?_
  by_cases h1 : x < 256 ^ wordN wide
  · simp only [if_pos h1]
    refine rec_round wide big [0, 0] [(x : Int), (y : Int)] _ 1 y (by simp) rfl (by simp) rfl hy (by simp [putL_length]; omega) (by omega) _ ?_
    by_cases h2 : y < 256 ^ wordN wide
    · simp only [if_pos h2]
      have he : entL big wide (x, y) = [] ++ putL big x (wordN wide) ++ putL big y (wordN wide) := by
        have hf2 : allFit ([0, 0].map (szOf wide)) [x, y] = true := by have := hfit; unfold entFit at this; rw [this]; simp [h1, h2]
        unfold entL recS
        rw [if_pos hf2]
        simp [fieldsL, szOf]
      rw [he, hfit]
      refine Ev.step (f := fun _ => some (⟨([] ++ putL big x (wordN wide) ++ putL big y (wordN wide)).toArray⟩, true)) (fun k => ?_) ?_
      · simp [graverref04_Record.l0]
      · simp only [h1, h2]; exact Ev.now _
    · simp only [if_neg h2]
      have he : entL big wide (x, y) = [] := by
        have hf2 : ¬ allFit ([0, 0].map (szOf wide)) [x, y] = true := by have := hfit; unfold entFit at this; rw [this]; simp [h2]
        unfold entL recS
        rw [if_neg hf2]
      rw [he, hfit]
      simp only [h2]
      simpa using Ev.now _
  · simp only [if_neg h1]
    have he : entL big wide (x, y) = [] := by
      have hf2 : ¬ allFit ([0, 0].map (szOf wide)) [x, y] = true := by have := hfit; unfold entFit at this; rw [this]; simp [h1]
      unfold entL recS
      rw [if_neg hf2]
    rw [he, hfit]
    simp only [h1]
    simpa using Ev.now _
end Go.Proofs.YtcfbdnlbgcoicaaDoorX.Ent

/- Plain laws: the reference's PutDynamic; entries and back. -/
namespace Go.Proofs.YtcfbdnlbgcoicaaDoorX.Ent
set_option linter.unusedVariables false
set_option linter.unusedSimpArgs false
open Go.RowKit Go.Proofs.YtcfbdnlbgcoicaaDoor Go.Proofs.YtcfbdnlbgcoicaaDoorW.PrintWords Go.Proofs.YtcfbdnlbgcoicaaDoorW.PrintLast Go.Proofs.YtcfbdnlbgcoicaaDoorW.PrintMore

def to51 (e : Nat × Nat) : S51 := ⟨(e.1 : Int), (e.2 : Int)⟩
def to52 (e : Nat × Nat) : S52 := ⟨(e.1 : Int), (e.2 : Int)⟩
theorem word48 (wide : Bool) : wordN wide = 8 ∨ wordN wide = 4 := by unfold wordN; cases wide <;> simp
theorem entL_fit (big wide : Bool) (e : Nat × Nat) (h : entFit wide e = true) : entL big wide e = putL big e.1 (wordN wide) ++ putL big e.2 (wordN wide) := by
  unfold entL recS
  unfold entFit at h
  rw [if_pos h]
  simp [fieldsL, szOf]
theorem ent_zero (wide : Bool) : entFit wide (0, 0) = true := by cases wide <;> rfl
theorem entL_zero (big wide : Bool) : entL big wide (0, 0) = List.replicate (2 * wordN wide) 0 := by cases big <;> cases wide <;> rfl
theorem ent_lt (wide : Bool) (e : Nat × Nat) (h1 : e.1 < 18446744073709551616) (h2 : e.2 < 18446744073709551616) : entFit wide e = (decide (e.1 < 256 ^ wordN wide) && decide (e.2 < 256 ^ wordN wide)) := by
  unfold entFit
  simp only [List.map_cons, List.map_nil, allFit, fits_word wide _ h1, fits_word wide _ h2, Bool.and_true]
theorem nums_zero : ∀ n, strOfNums (List.replicate n 0) = ⟨(List.replicate n (0 : UInt8)).toArray⟩ := fun n => by
  simp only [strOfNums, List.map_replicate]
  rfl
theorem pd_round (big wide : Bool) (es : List (Nat × Nat)) (hl : es.length ≤ 100) (hns : ∀ e ∈ es, e.1 < 18446744073709551616 ∧ e.2 < 18446744073709551616) : ∀ d i, i + d = es.length →
    (∀ e ∈ es.take i, entFit wide e = true ∧ e.1 ≠ 0) →
    Ev (fun k => graverref10_PutDynamic.l0 k wide big (es.map to52) ⟨((es.take i).flatMap (entL big wide)).toArray⟩ (i : Int)) (⟨(if dynOk wide es = true then dynL big wide es else []).toArray⟩, dynOk wide es) := by
  intro d
  induction d with
  | zero =>
    intro i hi hall
    obtain rfl : i = es.length := by omega
    rw [List.take_length] at hall ⊢
    have hok : dynOk wide es = true := by
      unfold dynOk
      rw [Bool.and_eq_true, List.all_eq_true, List.all_eq_true]
      refine ⟨fun e he => ?_, fun e he => decide_eq_true (hall e he).2⟩
      rcases List.mem_append.1 he with h | h
      · exact (hall e h).1
      · simp at h; subst h; exact ent_zero wide
    have hle : (es.flatMap (entL big wide)).length ≤ 1600 := by
      have := flat_le (entL big wide) 16 (entL_length big wide) es; omega
    have hd : dynL big wide es = es.flatMap (entL big wide) ++ List.replicate (2 * wordN wide) 0 := by
      unfold dynL; rw [List.flatMap_append]; simp [entL_zero]
    rw [hok, if_pos rfl, hd]
    refine Ev.step (f := fun _ => some (⟨(es.flatMap (entL big wide) ++ List.replicate (2 * wordN wide) 0).toArray⟩, true)) (fun k => ?_) (Ev.now _)
    simp only [graverref10_PutDynamic.l0]
    rw [if_neg (by rw [List.length_map]; omega)]
    cases wide with
    | true =>
      have hs : (⟨(es.flatMap (entL big true)).toArray⟩ : ByteArray).size + (⟨(List.replicate 16 (0 : UInt8)).toArray⟩ : ByteArray).size ≤ 9223372036854775807 := sum_small (by rw [List.length_replicate]; omega)
      rw [if_pos rfl, if_pos (by decide), Option.bind_some, nums_zero, if_pos hs, ba_app]; rfl
    | false =>
      have hs : (⟨(es.flatMap (entL big false)).toArray⟩ : ByteArray).size + (⟨(List.replicate 8 (0 : UInt8)).toArray⟩ : ByteArray).size ≤ 9223372036854775807 := sum_small (by rw [List.length_replicate]; omega)
      rw [if_neg (by simp), if_pos (by decide), Option.bind_some, nums_zero, if_pos hs, ba_app]; rfl
  | succ d ih =>
    intro i hi hall
    have hil : i < es.length := by omega
    obtain ⟨e, he⟩ : ∃ e, e = es[i] := ⟨_, rfl⟩
    have hrd : rd_T52 (es.map to52) (i : Int) = to52 e := by
      unfold rd_T52
      rw [Int.toNat_natCast, List.getD_eq_getElem?_getD, List.getElem?_map, List.getElem?_eq_getElem hil, he]; rfl
    have hen := hns e (by rw [he]; exact List.getElem_mem hil)
    have hmem : e ∈ es := by rw [he]; exact List.getElem_mem hil
    have hrec := rec2_ev wide big e.1 e.2 hen.1 hen.2
    have hle : ((es.take i).flatMap (entL big wide)).length ≤ 1600 := by
      have := flat_le (entL big wide) 16 (entL_length big wide) (es.take i)
      rw [List.length_take] at this; omega
    have hle2 := entL_length big wide e
    have htk : es.take (i + 1) = es.take i ++ [e] := by rw [List.take_add_one, List.getElem?_eq_getElem hil, he]; rfl
    refine Ev.step (f := fun k => (graverref04_Record.f k wide big [0, 0] [(e.1 : Int), (e.2 : Int)]).bind fun b => (if b.2 = true then (if (e.1 : Int) = 0 then (some ((⟨#[]⟩ : ByteArray), false)) else (if (⟨((es.take i).flatMap (entL big wide)).toArray⟩ : ByteArray).size + b.1.size ≤ 9223372036854775807 then (graverref10_PutDynamic.l0 k wide big (es.map to52) (⟨((es.take i).flatMap (entL big wide)).toArray⟩ ++ b.1) (wrap64 ((i : Int) + 1))) else (none))) else (some ((⟨#[]⟩ : ByteArray), false)))) (fun k => ?_) ?_
    · simp only [graverref10_PutDynamic.l0, hrd]
      rw [if_pos (by rw [List.length_map]; omega), if_pos (by omega)]
      rfl
    refine Ev.bind hrec ?_
    by_cases hf : entFit wide e = true
    · simp only [show entFit wide (e.1, e.2) = true from hf, if_true]
      by_cases h0 : e.1 = 0
      · have hno : dynOk wide es = false := by
          unfold dynOk
          have : es.all (fun e => decide (e.1 ≠ 0)) = false := by
            rw [List.all_eq_false]; exact ⟨e, hmem, by simp [h0]⟩
          rw [this, Bool.and_false]
        rw [hno]
        simp only [h0, Int.natCast_zero, if_true]
        simpa using Ev.now _
      · have hs : (⟨((es.take i).flatMap (entL big wide)).toArray⟩ : ByteArray).size + (⟨(entL big wide (e.1, e.2)).toArray⟩ : ByteArray).size ≤ 9223372036854775807 := sum_small (by show _ + (entL big wide e).length ≤ _; omega)
        have h0' : ¬ (e.1 : Int) = 0 := by omega
        simp only [if_neg h0', if_pos hs, ba_app, wrap_up i (by omega)]
        have := ih (i + 1) (by omega) (by
          intro x hx
          rw [htk] at hx
          rcases List.mem_append.1 hx with h | h
          · exact hall x h
          · simp at h; subst h; exact ⟨hf, h0⟩)
        rw [htk, List.flatMap_append] at this
        simpa using this
    · have hno : dynOk wide es = false := by
        unfold dynOk
        have : (es ++ [(0, 0)]).all (entFit wide) = false := by
          rw [List.all_eq_false]; exact ⟨e, by simp [hmem], hf⟩
        rw [this, Bool.false_and]
      rw [hno]
      have hf2 : entFit wide (e.1, e.2) = false := by simpa using hf
      simp only [hf2]
      simpa using Ev.now _
theorem pd_ev (big wide : Bool) (es : List (Nat × Nat)) (hl : es.length ≤ 100) (hns : ∀ e ∈ es, e.1 < 18446744073709551616 ∧ e.2 < 18446744073709551616) :
    Ev (fun k => graverref10_PutDynamic.f k wide big (es.map to52)) (⟨(if dynOk wide es = true then dynL big wide es else []).toArray⟩, dynOk wide es) := by
  have := pd_round big wide es hl hns es.length 0 (by omega) (by simp)
  exact this
/-! entries, and back -/
theorem take_two {α : Type} (a b c : List α) (n : Nat) (ha : a.length = n) (hb : b.length = n) : (a ++ b ++ c).take n = a ∧ ((a ++ b ++ c).drop n).take n = b ∧ (a ++ b ++ c).drop (2 * n) = c := by
  subst ha
  refine ⟨?_, ?_, ?_⟩
  · rw [List.append_assoc, List.take_left]
  · rw [List.append_assoc, List.drop_left, List.take_append_of_le_length (by omega), List.take_of_length_le (by omega)]
  · rw [show 2 * a.length = (a ++ b).length by rw [List.length_append]; omega, List.drop_left]
theorem dynR_step (big wide : Bool) (e : Nat × Nat) (hf : entFit wide e = true) (h0 : e.1 ≠ 0) (h1 : e.1 < 18446744073709551616) (h2 : e.2 < 18446744073709551616) (f : Nat) (s : List UInt8) :
    dynR big (wordN wide) (f + 1) (entL big wide e ++ s) = (dynR big (wordN wide) f s).map (e :: ·) := by
  rw [ent_lt wide e h1 h2, Bool.and_eq_true] at hf
  have q1 : e.1 < 256 ^ wordN wide := of_decide_eq_true hf.1
  have q2 : e.2 < 256 ^ wordN wide := of_decide_eq_true hf.2
  rw [entL_fit big wide e (by rw [ent_lt wide e h1 h2, Bool.and_eq_true]; exact hf)]
  obtain ⟨t1, t2, t3⟩ := take_two (putL big e.1 (wordN wide)) (putL big e.2 (wordN wide)) s (wordN wide) (putL_length _ _ _) (putL_length _ _ _)
  rw [dynR, if_neg (by simp only [List.length_append, putL_length]; omega), t1, t2, t3, getL_putL, getL_putL, Nat.mod_eq_of_lt q1, Nat.mod_eq_of_lt q2, if_neg h0]
theorem getL_zeros (big wide : Bool) : getL big (List.replicate (wordN wide) 0) = 0 := by cases big <;> cases wide <;> rfl
theorem dynR_flat (big wide : Bool) (rest : List UInt8) : ∀ (es : List (Nat × Nat)) (f : Nat), es.length < f → (∀ e ∈ es, entFit wide e = true ∧ e.1 ≠ 0 ∧ e.1 < 18446744073709551616 ∧ e.2 < 18446744073709551616) →
    dynR big (wordN wide) f (es.flatMap (entL big wide) ++ (List.replicate (2 * wordN wide) 0 ++ rest)) = some es
  | [], f, hf, _ => by
    obtain ⟨f, rfl⟩ : ∃ g, f = g + 1 := ⟨f - 1, by simp at hf; omega⟩
    have hw := word48 wide
    rw [List.flatMap_nil, List.nil_append, dynR, if_neg (by simp only [List.length_append, List.length_replicate]; omega)]
    have : (List.replicate (2 * wordN wide) (0 : UInt8) ++ rest).take (wordN wide) = List.replicate (wordN wide) 0 := by
      rw [List.take_append_of_le_length (by rw [List.length_replicate]; omega), List.take_replicate]
      congr 1; omega
    rw [this, getL_zeros, if_pos rfl]
  | e :: r, f, hf, h => by
    obtain ⟨f, rfl⟩ : ∃ g, f = g + 1 := ⟨f - 1, by simp at hf; omega⟩
    have he := h e (by simp)
    rw [List.flatMap_cons, List.append_assoc, dynR_step big wide e he.1 he.2.1 he.2.2.1 he.2.2.2, dynR_flat big wide rest r f (by simp at hf; omega) (fun x hx => h x (by simp [hx]))]
    rfl
theorem dynR_cut (big wide : Bool) : ∀ (es : List (Nat × Nat)) (f : Nat), (∀ e ∈ es, entFit wide e = true ∧ e.1 ≠ 0 ∧ e.1 < 18446744073709551616 ∧ e.2 < 18446744073709551616) →
    dynR big (wordN wide) f (es.flatMap (entL big wide) ++ List.replicate (2 * wordN wide - 1) 0) = none
  | [], f, _ => by
    have hw := word48 wide
    cases f with
    | zero => rfl
    | succ f => rw [List.flatMap_nil, List.nil_append, dynR, if_pos (by rw [List.length_replicate]; omega)]
  | e :: r, f, h => by
    cases f with
    | zero => rfl
    | succ f =>
      have he := h e (by simp)
      rw [List.flatMap_cons, List.append_assoc, dynR_step big wide e he.1 he.2.1 he.2.2.1 he.2.2.2, dynR_cut big wide r f (fun x hx => h x (by simp [hx]))]
      rfl
end Go.Proofs.YtcfbdnlbgcoicaaDoorX.Ent

/- Plain law: DynrecEntries comes to true. -/
namespace Go.Proofs.YtcfbdnlbgcoicaaDoorX.Ent
set_option linter.unusedVariables false
set_option linter.unusedSimpArgs false
open Go.RowKit Go.Proofs.YtcfbdnlbgcoicaaDoor Go.Proofs.YtcfbdnlbgcoicaaDoorW.PrintWords Go.Proofs.YtcfbdnlbgcoicaaDoorW.PrintLast Go.Proofs.YtcfbdnlbgcoicaaDoorW.PrintMore

def to49 (e : Nat × Nat) : S49 := ⟨(e.1 : Int), (e.2 : Int)⟩
def Fits (es : List (Nat × Nat)) : Prop := ∀ e ∈ es, e.1 < 18446744073709551616 ∧ e.2 < 18446744073709551616
theorem back51 (es : List (Nat × Nat)) : ((es.map to51).map fun e => (e.f0.toNat, e.f1.toNat)) = es := by
  rw [List.map_map]
  conv => rhs; rw [← List.map_id es]
  refine List.map_congr_left (fun e _ => ?_)
  simp [to51]
theorem putDynamic_f (big wide : Bool) (es : List (Nat × Nat)) (hl : es.length ≤ 100) (hns : Fits es) :
    dynrec_PutDynamic.f big wide (es.map to51) = some (⟨(if dynOk wide es = true then dynL big wide es else []).toArray⟩, dynOk wide es) := by
  unfold dynrec_PutDynamic.f
  rw [back51, if_pos]
  refine ⟨by rw [List.length_map]; exact hl, ?_⟩
  rw [List.all_eq_true]
  intro x hx
  obtain ⟨e, he, rfl⟩ := List.mem_map.1 hx
  have := hns e he
  refine decide_eq_true ⟨?_, ?_, ?_, ?_⟩ <;> simp [to51] <;> omega
theorem dynamic_f (big wide : Bool) (l : List UInt8) (hl : l.length ≤ 100000) : dynrec_Dynamic.f big wide ⟨l.toArray⟩ = (match dynR big (wordN wide) (l.length + 1) l with | some es => some (es.map to51, 0) | none => some ([], 24)) := by
  unfold dynrec_Dynamic.f
  rw [if_pos (by rw [ba_size]; exact hl)]
  rfl
theorem l1_ev (big wide : Bool) (es : List (Nat × Nat)) (hl : es.length ≤ 100) (s : List UInt8) (R : Bool)
    (hend : Ev (fun k => if 0 ≤ wrap64 (((⟨s.toArray⟩ : ByteArray).size : Int) - 1) then (if wrap64 (((⟨s.toArray⟩ : ByteArray).size : Int) - 1) ≤ ((⟨s.toArray⟩ : ByteArray).size : Int) then ((dynrec_Dynamic.f big wide ((⟨s.toArray⟩ : ByteArray).extract 0 (wrap64 (((⟨s.toArray⟩ : ByteArray).size : Int) - 1) : Int).toNat)).bind fun b => (some (b.2 == 24))) else none) else none) R) :
    ∀ d i, i + d = es.length → Ev (fun k => graverlaw10_DynrecEntries.l1 k (es.map to51) ⟨s.toArray⟩ (es.map to51) (i : Int) big wide) R := by
  intro d
  induction d with
  | zero =>
    intro i hi
    refine Ev.step (fun k => ?_) hend
    simp only [graverlaw10_DynrecEntries.l1]
    rw [if_neg (by rw [List.length_map]; omega)]
  | succ d ih =>
    intro i hi
    refine Ev.step (fun k => ?_) (ih (i + 1) (by omega))
    simp only [graverlaw10_DynrecEntries.l1]
    rw [if_pos (by rw [List.length_map]; omega), if_pos (by omega), if_pos (by rw [List.length_map]; omega), wrap_up i (by omega)]
    simp
theorem law_end (big wide : Bool) (es : List (Nat × Nat)) (hl : es.length ≤ 12) (hns : Fits es) (more : List UInt8) :
    Ev (fun k => graverlaw10_DynrecEntries.j1 k ⟨more.toArray⟩ (es.map to51) (es.map to52) big wide) true := by
  have hp := putDynamic_f big wide es (by omega) hns
  have hr := pd_ev big wide es (by omega) hns
  refine Ev.step (f := fun k => (dynrec_PutDynamic.f big wide (es.map to51)).bind fun b => ((graverref10_PutDynamic.f k wide big (es.map to52)).bind fun c => (if b.1.toList = c.1.toList then (graverlaw10_DynrecEntries.j2 k ⟨more.toArray⟩ (es.map to51) b.1 b.2 (b.2 != c.2) big wide) else (graverlaw10_DynrecEntries.j2 k ⟨more.toArray⟩ (es.map to51) b.1 b.2 true big wide)))) (fun k => rfl) ?_
  rw [hp]
  simp only [Option.bind_some]
  refine Ev.bind hr ?_
  simp only [if_true, bne_self_eq_false]
  by_cases hok : dynOk wide es = true
  · have hall : ∀ e ∈ es, entFit wide e = true ∧ e.1 ≠ 0 ∧ e.1 < 18446744073709551616 ∧ e.2 < 18446744073709551616 := by
      intro e he
      unfold dynOk at hok
      rw [Bool.and_eq_true, List.all_eq_true, List.all_eq_true] at hok
      exact ⟨hok.1 e (by simp [he]), of_decide_eq_true (hok.2 e he), hns e he⟩
    have hd : dynL big wide es = es.flatMap (entL big wide) ++ List.replicate (2 * wordN wide) 0 := by
      unfold dynL; rw [List.flatMap_append]; simp [entL_zero]
    have hw := word48 wide
    have hle : (es.flatMap (entL big wide)).length ≤ 192 := by
      have := flat_le (entL big wide) 16 (entL_length big wide) es; omega
    have hdl : (dynL big wide es).length = (es.flatMap (entL big wide)).length + 2 * wordN wide := by rw [hd, List.length_append, List.length_replicate]
    have hfl : es.length ≤ (es.flatMap (entL big wide)).length := by
      clear hle hdl hd hr hp hl
      induction es with
      | nil => simp
      | cons e r ih =>
        have h1 := ih (fun x hx => hns x (by simp [hx])) (by
          unfold dynOk at hok ⊢
          rw [Bool.and_eq_true, List.all_eq_true, List.all_eq_true] at hok ⊢
          exact ⟨fun x hx => hok.1 x (by show x ∈ e :: (r ++ [(0, 0)]); exact List.mem_cons_of_mem _ hx), fun x hx => hok.2 x (by simp [hx])⟩) (fun x hx => hall x (by simp [hx]))
        rw [List.flatMap_cons, List.length_append, entL_fit big wide e (hall e (by simp)).1, List.length_append, putL_length]
        simp only [List.length_cons]; omega
    rw [hok]
    simp only [if_true]
    generalize hS : dynL big wide es = S at *
    have hmn : ∃ m : Nat, mn (((⟨more.toArray⟩ : ByteArray).size : Nat) : Int) 30 = (m : Int) ∧ m ≤ 30 ∧ m ≤ more.length := by
      unfold mn
      rw [ba_size]
      split
      · exact ⟨30, rfl, by omega, by omega⟩
      · exact ⟨more.length, rfl, by omega, by omega⟩
    obtain ⟨m, hm, hm30, hml⟩ := hmn
    refine Ev.step (f := fun k => graverlaw10_DynrecEntries.j3 k (es.map to51) ⟨S.toArray⟩ (es.map to51) false big wide) (fun k => ?_) ?_
    · simp only [graverlaw10_DynrecEntries.j2, Bool.false_eq_true, if_false, if_true]
      rw [hm, if_pos (by omega), if_pos (by rw [ba_size]; omega), Int.toNat_natCast, ext_list, ba_app]
      have hex : (List.take (m - 0) (List.drop 0 more)).length ≤ 30 := by rw [List.length_take]; omega
      rw [if_pos (sum_small (by omega)), dynamic_f big wide _ (by rw [List.length_append]; omega), hd, List.append_assoc]
      rw [dynR_flat big wide _ es _ (by simp only [List.length_append]; omega) hall]
      simp
    refine Ev.step (f := fun k => graverlaw10_DynrecEntries.l1 k (es.map to51) ⟨S.toArray⟩ (es.map to51) 0 big wide) (fun k => by simp [graverlaw10_DynrecEntries.j3]) ?_
    refine l1_ev big wide es (by omega) S true ?_ es.length 0 (by omega)
    have e1 : wrap64 (((⟨S.toArray⟩ : ByteArray).size : Int) - 1) = ((S.length - 1 : Nat) : Int) := by
      rw [ba_size, wrap_s (by omega) (by omega)]; omega
    rw [e1]
    have hc : dynrec_Dynamic.f big wide ((⟨S.toArray⟩ : ByteArray).extract 0 ((S.length - 1 : Nat) : Int).toNat) = some ([], 24) := by
      rw [Int.toNat_natCast, ext_list, dynamic_f big wide _ (by simp only [List.length_take, List.length_drop]; omega)]
      have hcut : (S.drop 0).take (S.length - 1 - 0) = es.flatMap (entL big wide) ++ List.replicate (2 * wordN wide - 1) 0 := by
        rw [List.drop_zero, Nat.sub_zero, hd, List.take_append]
        have e2 : (es.flatMap (entL big wide) ++ List.replicate (2 * wordN wide) (0 : UInt8)).length - 1 = (es.flatMap (entL big wide)).length + (2 * wordN wide - 1) := by rw [List.length_append, List.length_replicate]; omega
        rw [e2, List.take_of_length_le (by omega), show (es.flatMap (entL big wide)).length + (2 * wordN wide - 1) - (es.flatMap (entL big wide)).length = 2 * wordN wide - 1 by omega, List.take_replicate]
        congr 2; omega
      rw [hcut, dynR_cut big wide es _ hall]
    rw [if_pos (by omega), if_pos (by rw [ba_size]; omega), hc]
    simpa using Ev.now true
  · have hok2 : dynOk wide es = false := by simpa using hok
    rw [hok2]
    refine Ev.step (f := fun _ => some true) (fun k => ?_) (Ev.now _)
    simp [graverlaw10_DynrecEntries.j2]
theorem law_loop (big wide : Bool) (ps : List (Nat × Nat)) (hns : Fits ps) (more : List UInt8) : ∀ d i, i + d = min ps.length 12 →
    Ev (fun k => graverlaw10_DynrecEntries.l0 k (ps.map to49) ⟨more.toArray⟩ ((ps.take i).map to51) ((ps.take i).map to52) (i : Int) big wide) true := by
  intro d
  induction d with
  | zero =>
    intro i hi
    have hfit : Fits (ps.take i) := fun e he => hns e (List.mem_of_mem_take he)
    refine Ev.step (fun k => ?_) (law_end big wide (ps.take i) (by rw [List.length_take]; omega) hfit more)
    simp only [graverlaw10_DynrecEntries.l0]
    by_cases h : (i : Int) < ((ps.map to49).length : Int)
    · rw [if_pos h, if_neg (by rw [List.length_map] at h; omega)]
    · rw [if_neg h]
  | succ d ih =>
    intro i hi
    have hil : i < ps.length := by omega
    have hrd : rd_T49 (ps.map to49) (i : Int) = to49 ps[i] := by
      unfold rd_T49
      rw [Int.toNat_natCast, List.getD_eq_getElem?_getD, List.getElem?_map, List.getElem?_eq_getElem hil]; rfl
    have htk : ps.take (i + 1) = ps.take i ++ [ps[i]] := by rw [List.take_add_one, List.getElem?_eq_getElem hil]; rfl
    have hlt : (ps.take i).length ≤ 12 := by rw [List.length_take]; omega
    have hih := ih (i + 1) (by omega)
    rw [htk, List.map_append, List.map_append] at hih
    refine Ev.step (fun k => ?_) hih
    simp only [graverlaw10_DynrecEntries.l0, hrd, Option.bind_some]
    rw [if_pos (by rw [List.length_map]; omega), if_pos (by omega), if_pos (by omega), if_pos (by simp; omega), if_pos (by simp; omega), wrap_up i (by omega)]
    rfl
theorem law_true (a0 : Int) (ps : List (Nat × Nat)) (hns : Fits ps) (more : List UInt8) : ∃ k, graverlaw10_DynrecEntries.f k a0 (ps.map to49) ⟨more.toArray⟩ = some true := by
  refine Ev.rounds ?_
  unfold graverlaw10_DynrecEntries.f graverlaw10_speaks.f graverlaw10_formOf.f
  simp only [Option.bind_some, if_true]
  exact law_loop _ _ ps hns more (min ps.length 12) 0 (by omega)
end Go.Proofs.YtcfbdnlbgcoicaaDoorX.Ent

/- The walk of DynrecEntries: it comes to true. -/
namespace Go.Proofs.YtcfbdnlbgcoicaaDoor
set_option linter.unusedVariables false
set_option linter.unusedSimpArgs false
open Go.RowKit Go.Proofs.YtcfbdnlbgcoicaaDoorX.Ent

theorem entries_walk (x0 : Int) (l1 : List (Nat × Nat)) (ql : ∀ e ∈ l1, e.1 < 18446744073709551616 ∧ e.2 < 18446744073709551616) (a1 : Option Addr) (c1 : Nat) (W : World) (rd : Rd W a1 (l1.flatMap encE)) (mc : l1.length ≤ c1) (ml : l1.length ≤ maxLen) (l2 : List UInt8) :
    Calls Tryd.prog 5 #[.int .i64 x0, .slice a1 l1.length c1, .string ⟨l2.toArray⟩] W fun e w' => e = .returned (.bool true) ∧ Below W.heap.size W w' := by
  obtain ⟨k, hk⟩ := law_true x0 l1 ql l2
  have hl : (l1.map to49).length = l1.length := List.length_map _
  have hrd : Rd W a1 ((l1.map to49).flatMap fun e : S49 => [.int .u64 e.f0, .int .u64 e.f1]) := by
    rw [List.flatMap_map]; exact rd
  have hm : l1.length ≤ 9223372036854775807 := by unfold maxLen at ml; omega
  have h := graverlaw10_DynrecEntries.calls k x0 a1 c1 (l1.map to49) ⟨l2.toArray⟩ true W (C_of_rd (d := k49) _ (fun _ => rfl) (fun w x => k49_mk w x) hrd (by rw [hl]; exact hm) (by decide)) (by rw [hl]; exact mc) hk
  rw [hl] at h
  exact h
end Go.Proofs.YtcfbdnlbgcoicaaDoor

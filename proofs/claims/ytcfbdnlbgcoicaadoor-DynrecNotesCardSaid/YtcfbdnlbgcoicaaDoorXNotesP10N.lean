/- Plain laws: the reference's Put and Get are the numbers' bytes. -/
import Derived.Test.YtcfbdnlbgcoicaaDoorXNotesx2
import Derived.Test.YtcfbdnlbgcoicaaDoorDynJ
import Derived.Test.YtcfbdnlbgcoicaaDoorXNotesx3
import Derived.Test.YtcfbdnlbgcoicaaDoorXNotesx4
import Derived.Test.YtcfbdnlbgcoicaaDoorXNotesOp
namespace Go.Proofs.YtcfbdnlbgcoicaaDoorX.Notes
set_option linter.unusedVariables false
set_option linter.unusedSimpArgs false
open Go.RowKit Go.Proofs.YtcfbdnlbgcoicaaDoor Go.Proofs.YtcfbdnlbgcoicaaDoorW.PrintWords Go.Proofs.YtcfbdnlbgcoicaaDoorW.PrintLast Go.Proofs.YtcfbdnlbgcoicaaDoorW.PrintMore

/-- The bytes of a number, so many of the lowest, as the reference lays them. -/
def refB (big : Bool) (n : Nat) : Nat → List UInt8
  | 0 => []
  | i + 1 => if big then UInt8.ofNat (byt n i) :: refB big n i else refB big n i ++ [UInt8.ofNat (byt n i)]
theorem refB_length (big : Bool) (n : Nat) : ∀ i, (refB big n i).length = i
  | 0 => rfl
  | i + 1 => by unfold refB; split <;> simp [refB_length big n i]
theorem refB_eq (big : Bool) (n : Nat) : ∀ i, refB big n i = putL big n i
  | 0 => rfl
  | i + 1 => by
    cases big with
    | false =>
      unfold refB
      rw [refB_eq false n i]
      simp [putL, List.range_succ, plc]
    | true =>
      unfold refB
      rw [refB_eq true n i]
      simp only [if_true, putL]
      rw [List.range_succ_eq_map, List.map_cons, List.map_map]
      congr 1
      refine List.map_congr_left (fun p hp => ?_)
      simp only [Function.comp, plc, if_true]
      rw [show i + 1 - 1 - Nat.succ p = i - 1 - p by omega]
theorem put_round (big : Bool) (n size : Nat) (hn : n < 18446744073709551616) (h8 : size ≤ 8) : ∀ d i, i + d = size → ∀ q, q = n / 256 ^ i →
    Ev (fun k => graverref01_Put.l0 k big (q : Int) (size : Int) ⟨(refB big n i).toArray⟩ (i : Int)) (⟨(refB big n size).toArray⟩ : ByteArray) := by
  intro d
  induction d with
  | zero =>
    intro i hi q hq
    obtain rfl : i = size := by omega
    refine Ev.step (f := fun k => graverref01_Put.j1 k big (q : Int) (i : Int) ⟨(refB big n i).toArray⟩ (i : Int) false) (fun k => ?_) (Ev.step (f := fun _ => some (⟨(refB big n i).toArray⟩ : ByteArray)) (fun k => ?_) (Ev.now _))
    · simp only [graverref01_Put.l0]; rw [if_neg (by omega)]
    · simp [graverref01_Put.j1]
  | succ d ih =>
    intro i hi q hq
    have hq2 : q / 256 = n / 256 ^ (i + 1) := by rw [hq, Nat.pow_succ, Nat.div_div_eq_div_mul]
    have hb2 : byt n i = q % 256 := by rw [hq]; rfl
    have hlt : q < 18446744073709551616 := by rw [hq]; exact Nat.lt_of_le_of_lt (Nat.div_le_self _ _) hn
    have hih := ih (i + 1) (by omega) (q / 256) hq2
    clear hq hq2 ih
    have hrb : refB big n (i + 1) = if big then UInt8.ofNat (q % 256) :: refB big n i else refB big n i ++ [UInt8.ofNat (q % 256)] := by rw [← hb2]; rfl
    rw [hrb] at hih
    have hln := refB_length big n i
    generalize refB big n i = s at *
    refine Ev.step (f := fun k => graverref01_Put.j1 k big (q : Int) (size : Int) ⟨s.toArray⟩ (i : Int) true) (fun k => ?_) (Ev.step (fun k => ?_) hih)
    · simp only [graverref01_Put.l0]; rw [if_pos (by omega), show decide ((size : Int) ≤ 8) = true from decide_eq_true (by omega)]
    · have e1 : (Int.tmod (q : Int) 256) % 256 = ((q % 256 : Nat) : Int) := by
        rw [Int.tmod_eq_emod_of_nonneg (by omega)]; omega
      have e2 : IntKind.u64.wrap (Int.tdiv (q : Int) 256) = ((q / 256 : Nat) : Int) := by
        rw [Int.tdiv_eq_ediv_of_nonneg (by omega), IntKind.wrap_u64]
        omega
      have e3 : strOfNums [((q % 256 : Nat) : Int)] = ⟨[UInt8.ofNat (q % 256)].toArray⟩ := by simp only [strOfNums, List.map_cons, List.map_nil, Int.toNat_natCast]
      have e4 := wrap_up i (by omega)
      simp only [graverref01_Put.j1, if_true, Option.bind_some]
      rw [e1, e2, e3, e4]
      cases big with
      | true =>
        clear e1 e2 e3 e4
        have hs : (⟨[UInt8.ofNat (q % 256)].toArray⟩ : ByteArray).size + (⟨s.toArray⟩ : ByteArray).size ≤ 9223372036854775807 := by exact sum_small (by rw [hln, List.length_singleton]; omega)
        simp only [if_true]
        rw [if_pos hs, ba_app, List.singleton_append]
      | false =>
        clear e1 e2 e3 e4
        have hs : (⟨s.toArray⟩ : ByteArray).size + (⟨[UInt8.ofNat (q % 256)].toArray⟩ : ByteArray).size ≤ 9223372036854775807 := by exact sum_small (by rw [hln, List.length_singleton]; omega)
        simp only [Bool.false_eq_true, if_false]
        rw [if_pos hs, ba_app]
theorem put_ev (big : Bool) (n size : Nat) (hn : n < 18446744073709551616) (h8 : size ≤ 8) : Ev (fun k => graverref01_Put.f k big (n : Int) (size : Int)) (⟨(putL big n size).toArray⟩ : ByteArray) := by
  have h := put_round big n size hn h8 size 0 (by omega) n (by simp)
  rw [refB_eq big n size] at h
  exact h
theorem getN_mod (f : Nat → Nat) (hf : ∀ k, f k < 256) (n : Nat) : ∀ m, m < n → getN f n / 256 ^ m % 256 = f m := by
  induction n with
  | zero => intro m hm; omega
  | succ n ih =>
    intro m hm
    rw [getN]
    rcases Nat.lt_or_ge m n with h | h
    · have e : f n * 256 ^ n = 256 ^ m * (256 * (f n * 256 ^ (n - m - 1))) := by
        rw [show n = m + 1 + (n - m - 1) by omega, Nat.pow_add, Nat.pow_succ, show m + 1 + (n - m - 1) - m - 1 = n - m - 1 by omega]
        generalize f (m + 1 + (n - m - 1)) = a
        generalize 256 ^ (n - m - 1) = b
        generalize 256 ^ m = c
        rw [Nat.mul_left_comm a, Nat.mul_assoc]
      rw [e, Nat.add_mul_div_left _ _ (Nat.pow_pos (by decide)), Nat.add_mul_mod_self_left]
      exact ih m h
    · obtain rfl : m = n := by omega
      have hl := getN_lt f hf m
      rw [Nat.add_mul_div_right _ _ (Nat.pow_pos (by decide)), Nat.div_eq_of_lt hl, Nat.zero_add, Nat.mod_eq_of_lt (hf m)]
end Go.Proofs.YtcfbdnlbgcoicaaDoorX.Notes

/- Plain laws: the reference's PutNotes; notes cut off, and back. -/
namespace Go.Proofs.YtcfbdnlbgcoicaaDoorX.Notes
set_option linter.unusedVariables false
set_option linter.unusedSimpArgs false
open Go.RowKit Go.Proofs.YtcfbdnlbgcoicaaDoor Go.Proofs.YtcfbdnlbgcoicaaDoorW.PrintWords Go.Proofs.YtcfbdnlbgcoicaaDoorW.PrintLast Go.Proofs.YtcfbdnlbgcoicaaDoorW.PrintMore

def of35 (e : NoteD) : S35 := ⟨(e.ty : Int), ⟨e.name.toArray⟩, ⟨e.desc.toArray⟩⟩
theorem pad_ev : ∀ d (l : List UInt8), (4 - l.length % 4) % 4 = d → l.length ≤ 100000 → Ev (fun k => graverref10_padded.l0 k ⟨l.toArray⟩) (⟨(l ++ List.replicate d 0).toArray⟩ : ByteArray) := by
  intro d
  induction d with
  | zero =>
    intro l hd hl
    refine Ev.step (f := fun _ => some (⟨l.toArray⟩ : ByteArray)) (fun k => ?_) (by simpa using Ev.now _)
    simp only [graverref10_padded.l0]
    rw [if_neg (by rw [ba_size]; omega)]
  | succ d ih =>
    intro l hd hl
    have h := ih (l ++ [0]) (by rw [List.length_append, List.length_singleton]; omega) (by rw [List.length_append, List.length_singleton]; omega)
    rw [List.append_assoc, List.singleton_append, ← List.replicate_succ] at h
    refine Ev.step (fun k => ?_) h
    simp only [graverref10_padded.l0]
    rw [if_pos (by rw [ba_size]; omega), if_pos (by rw [ba_size]; exact small (by omega)), show (⟨#[0]⟩ : ByteArray) = ⟨([0] : List UInt8).toArray⟩ from rfl, ba_app]
theorem padded_ev (l : List UInt8) (hl : l.length ≤ 99000) : Ev (fun k => graverref10_padded.f k ⟨l.toArray⟩) (⟨(l ++ padZ l.length).toArray⟩ : ByteArray) := pad_ev _ l rfl (by omega)
def Short (es : List NoteD) : Prop := ∀ e ∈ es, e.ty < 18446744073709551616 ∧ e.name.length ≤ 40 ∧ e.desc.length ≤ 40
theorem noteFit_short (wide : Bool) (e : NoteD) (h : e.name.length ≤ 40 ∧ e.desc.length ≤ 40) : noteFit wide e = decide (e.ty < 4294967296) := noteFit_iff wide e (by omega) (by omega)
theorem noteL_short (big wide : Bool) (e : NoteD) (h : e.name.length ≤ 40 ∧ e.desc.length ≤ 40) : (noteL big wide e).length ≤ 100 := by
  by_cases hf : noteFit wide e = true
  · rw [noteL_eq big wide e hf]
    simp only [List.length_append, putL_length, padZ_length]; omega
  · unfold noteL recS
    unfold noteFit at hf
    rw [if_neg hf]
    simp only [List.length_append, List.length_nil, padZ_length]; omega
theorem flat_short (big wide : Bool) : ∀ (es : List NoteD), Short es → (es.flatMap (noteL big wide)).length ≤ 100 * es.length
  | [], _ => by simp
  | e :: r, h => by
    have h1 := flat_short big wide r (fun x hx => h x (by simp [hx]))
    have h2 := noteL_short big wide e (h e (by simp)).2
    rw [List.flatMap_cons, List.length_append, List.length_cons]; omega
theorem pn_round (big wide : Bool) (es : List NoteD) (hl : es.length ≤ 8) (hs : Short es) : ∀ d i, i + d = es.length → (∀ e ∈ es.take i, noteFit wide e = true) →
    Ev (fun k => graverref10_PutNotes.l0 k big (es.map of35) ⟨((es.take i).flatMap (noteL big wide)).toArray⟩ (i : Int)) (⟨(if es.all (noteFit wide) = true then es.flatMap (noteL big wide) else []).toArray⟩, es.all (noteFit wide)) := by
  intro d
  induction d with
  | zero =>
    intro i hi hall
    obtain rfl : i = es.length := by omega
    rw [List.take_length] at hall ⊢
    rw [List.all_eq_true.2 hall, if_pos rfl]
    refine Ev.step (f := fun _ => some (⟨(es.flatMap (noteL big wide)).toArray⟩, true)) (fun k => ?_) (Ev.now _)
    simp only [graverref10_PutNotes.l0]
    rw [if_neg (by rw [List.length_map]; omega)]
  | succ d ih =>
    intro i hi hall
    have hil : i < es.length := by omega
    obtain ⟨e, he⟩ : ∃ e, e = es[i] := ⟨_, rfl⟩
    have hrd : rd_T35 (es.map of35) (i : Int) = of35 e := by
      unfold rd_T35
      rw [Int.toNat_natCast, List.getD_eq_getElem?_getD, List.getElem?_map, List.getElem?_eq_getElem hil, he]; rfl
    have hmem : e ∈ es := by rw [he]; exact List.getElem_mem hil
    obtain ⟨h0, h1, h2⟩ := hs e hmem
    have hfit := noteFit_short wide e ⟨h1, h2⟩
    have htk : es.take (i + 1) = es.take i ++ [e] := by rw [List.take_add_one, List.getElem?_eq_getElem hil, he]; rfl
    have hle : ((es.take i).flatMap (noteL big wide)).length ≤ 1000 := by
      have := flat_short big wide (es.take i) (fun x hx => hs x (List.mem_of_mem_take hx))
      rw [List.length_take] at this; omega
    generalize hacc : (es.take i).flatMap (noteL big wide) = acc at *
    by_cases ht : e.ty < 4294967296
    · have hf : noteFit wide e = true := by rw [hfit]; exact decide_eq_true ht
      have hih := ih (i + 1) (by omega) (by
        intro x hx
        rw [htk] at hx
        rcases List.mem_append.1 hx with h | h
        · exact hall x h
        · simp at h; subst h; exact hf)
      rw [htk, List.flatMap_append, hacc, List.flatMap_cons, List.flatMap_nil, List.append_nil, noteL_eq big wide e hf] at hih
      have p1 := put_ev big e.name.length 4 (by omega) (by omega)
      have p2 := put_ev big e.desc.length 4 (by omega) (by omega)
      have p3 := put_ev big e.ty 4 (by omega) (by omega)
      have p4 := padded_ev e.name (by omega)
      have p5 := padded_ev e.desc (by omega)
      have w1 : IntKind.u64.wrap (((⟨e.name.toArray⟩ : ByteArray).size : Nat) : Int) = (e.name.length : Int) := by rw [ba_size, IntKind.wrap_u64]; omega
      have w2 : IntKind.u64.wrap (((⟨e.desc.toArray⟩ : ByteArray).size : Nat) : Int) = (e.desc.length : Int) := by rw [ba_size, IntKind.wrap_u64]; omega
      have q1 := putL_length big e.name.length 4
      have q2 := putL_length big e.desc.length 4
      have q3 := putL_length big e.ty 4
      have q4 := padZ_length e.name.length
      have q5 := padZ_length e.desc.length
      generalize putL big e.name.length 4 = A at *
      generalize putL big e.desc.length 4 = B at *
      generalize putL big e.ty 4 = C at *
      generalize padZ e.name.length = P at *
      generalize padZ e.desc.length = Q at *
      refine Ev.step (f := fun k => (graverref01_Put.f k big (e.name.length : Int) 4).bind fun a => ((graverref01_Put.f k big (e.desc.length : Int) 4).bind fun b => (if a.size + b.size ≤ 9223372036854775807 then ((graverref01_Put.f k big (e.ty : Int) 4).bind fun c => (if (a ++ b).size + c.size ≤ 9223372036854775807 then ((graverref10_padded.f k ⟨e.name.toArray⟩).bind fun p => (if ((a ++ b) ++ c).size + p.size ≤ 9223372036854775807 then ((graverref10_padded.f k ⟨e.desc.toArray⟩).bind fun q => (if (((a ++ b) ++ c) ++ p).size + q.size ≤ 9223372036854775807 then (if (⟨acc.toArray⟩ : ByteArray).size + ((((a ++ b) ++ c) ++ p) ++ q).size ≤ 9223372036854775807 then (graverref10_PutNotes.l0 k big (es.map of35) (⟨acc.toArray⟩ ++ ((((a ++ b) ++ c) ++ p) ++ q)) (wrap64 ((i : Int) + 1))) else (none)) else (none))) else (none))) else (none))) else (none)))) (fun k => ?_) ?_
      · simp only [graverref10_PutNotes.l0, hrd]
        rw [if_pos (by rw [List.length_map]; omega), if_pos (by omega), if_neg (by simp only [of35]; omega)]
        simp only [of35, w1, w2]
      refine Ev.bind p1 (Ev.bind p2 ?_)
      simp only [if_pos (sum_small (a := A) (b := B) (by omega)), ba_app]
      refine Ev.bind p3 ?_
      simp only [if_pos (sum_small (a := A ++ B) (b := C) (by rw [List.length_append]; omega)), ba_app]
      refine Ev.bind p4 ?_
      simp only [if_pos (sum_small (a := A ++ B ++ C) (b := e.name ++ P) (by simp only [List.length_append]; omega)), ba_app]
      refine Ev.bind p5 ?_
      simp only [if_pos (sum_small (a := A ++ B ++ C ++ (e.name ++ P)) (b := e.desc ++ Q) (by simp only [List.length_append]; omega)), ba_app, if_pos (sum_small (a := acc) (b := A ++ B ++ C ++ (e.name ++ P) ++ (e.desc ++ Q)) (by simp only [List.length_append]; omega)), wrap_up i (by omega)]
      simpa only [List.append_assoc] using hih
    · have hf : noteFit wide e = false := by rw [hfit]; exact decide_eq_false ht
      have hno : es.all (noteFit wide) = false := by rw [List.all_eq_false]; exact ⟨e, hmem, by simp [hf]⟩
      rw [hno]
      refine Ev.step (f := fun _ => some ((⟨#[]⟩ : ByteArray), false)) (fun k => ?_) (by simpa using Ev.now _)
      simp only [graverref10_PutNotes.l0, hrd]
      rw [if_pos (by rw [List.length_map]; omega), if_pos (by omega), if_pos (by simp only [of35]; omega)]
theorem pn_ev (big wide : Bool) (es : List NoteD) (hl : es.length ≤ 8) (hs : Short es) :
    Ev (fun k => graverref10_PutNotes.f k big (es.map of35)) (⟨(if es.all (noteFit wide) = true then es.flatMap (noteL big wide) else []).toArray⟩, es.all (noteFit wide)) := pn_round big wide es hl hs es.length 0 (by omega) (by simp)
/-! what is cut off; what is read -/
theorem noteR_err (big : Bool) : ∀ (f : Nat) (l : List UInt8) (c : Nat), noteR big f l = .error c → c = 3 ∨ c = 6
  | 0, l, c, h => by simp [noteR] at h; exact .inl h.symm
  | f + 1, l, c, h => by
    rw [noteR] at h
    split at h
    · cases h
    · dsimp only at h
      split at h
      · injection h with h; exact .inl h.symm
      · split at h
        · split at h
          · cases h
          · rename_i c' hc
            injection h with h
            subst h
            exact noteR_err big f _ _ hc
        · injection h with h; exact .inr h.symm
theorem noteR_short (big : Bool) (f ty n d m : Nat) (name desc P Q : List UInt8) (hn : name.length = n) (hd : desc.length = d) (hn2 : n < 4294967296) (hd2 : d < 4294967296) (hP : P.length = (padZ (n % 4)).length) (hQ : Q.length = (padZ (d % 4)).length)
    (hm : m + 1 = 12 + n + P.length + d + Q.length) : noteR big (f + 1) ((putL big n 4 ++ (putL big d 4 ++ (putL big ty 4 ++ (name ++ (P ++ (desc ++ Q)))))).take m) = .error 3 := by
  have l1 := putL_length big n 4
  have l2 := putL_length big d 4
  have l3 := putL_length big ty 4
  have g1 : getL big (putL big n 4) = n := by rw [getL_putL, Nat.mod_eq_of_lt (by simpa using hn2)]
  have g2 : getL big (putL big d 4) = d := by rw [getL_putL, Nat.mod_eq_of_lt (by simpa using hd2)]
  generalize putL big n 4 = A at *
  generalize putL big d 4 = B at *
  generalize putL big ty 4 = C at *
  obtain ⟨s, hs⟩ : ∃ s, s = A ++ (B ++ (C ++ (name ++ (P ++ (desc ++ Q))))) := ⟨_, rfl⟩
  rw [← hs]
  have hlen : s.length = m + 1 := by rw [hs]; simp only [List.length_append]; omega
  have t0 : (s.take m).take 4 = A := by rw [List.take_take, show min 4 m = 4 by omega, hs]; exact List.take_left' l1
  have t4 : ((s.take m).drop 4).take 4 = B := by
    rw [List.drop_take, List.take_take, show min 4 (m - 4) = 4 by omega, hs, List.drop_left' l1]; exact List.take_left' l2
  have hl : (s.take m).length = m := by rw [List.length_take]; omega
  rw [noteR, if_neg (by omega)]
  dsimp only
  rw [t0, t4, g1, g2, if_pos (by omega)]
theorem noteR_cut (big wide : Bool) : ∀ (es : List NoteD), (∀ e ∈ es, e.name.length < 4294967296 ∧ e.desc.length < 4294967296 ∧ e.ty < 4294967296) → 0 < (es.flatMap (noteL big wide)).length →
    ∀ f, noteR big f ((es.flatMap (noteL big wide)).take ((es.flatMap (noteL big wide)).length - 1)) = .error 3
  | [], _, h, f => by simp at h
  | e :: r, hs, h, 0 => by simp [noteR]
  | e :: r, hs, h, f + 1 => by
    obtain ⟨h1, h2, h3⟩ := hs e (by simp)
    have hfit : noteFit wide e = true := by rw [noteFit_iff wide e h1 h2]; simpa using h3
    have hL : (noteL big wide e).length = 12 + e.name.length + (padZ e.name.length).length + e.desc.length + (padZ e.desc.length).length := by
      rw [noteL_eq big wide e hfit]; simp only [List.length_append, putL_length]; omega
    by_cases hr : (r.flatMap (noteL big wide)).length = 0
    · have hr0 : r.flatMap (noteL big wide) = [] := List.eq_nil_of_length_eq_zero hr
      rw [List.flatMap_cons, hr0, List.append_nil, noteL_eq big wide e hfit]
      refine noteR_short big f e.ty e.name.length e.desc.length _ e.name e.desc _ _ rfl rfl h1 h2 (by rw [padZ_mod]) (by rw [padZ_mod]) ?_
      simp only [List.length_append, putL_length]; omega
    · have ih := noteR_cut big wide r (fun x hx => hs x (by simp [hx])) (by omega) f
      rw [List.flatMap_cons, List.length_append, List.take_append, List.take_of_length_le (by omega), show (noteL big wide e).length + (r.flatMap (noteL big wide)).length - 1 - (noteL big wide e).length = (r.flatMap (noteL big wide)).length - 1 by omega, noteL_eq big wide e hfit]
      simp only [List.append_assoc]
      rw [noteR_cons big f e.ty e.name e.desc _ _ _ h1 h2 h3 (by rw [padZ_mod]) (by rw [padZ_mod]), if_pos (by simp [padZ]), ih]
theorem putL_getL (big : Bool) (l : List UInt8) : putL big (getL big l) l.length = l := by
  apply List.ext_getElem?
  intro p
  unfold putL
  rw [List.getElem?_map]
  by_cases hp : p < l.length
  · rw [List.getElem?_range hp, List.getElem?_eq_getElem hp, Option.map_some]
    congr 1
    have hb : byt (getL big l) (plc big l.length p) = (l.getD (plc big l.length (plc big l.length p)) 0).toNat := by
      have := getN_mod (fun k => (l.getD (plc big l.length k) 0).toNat) (fun k => UInt8.toNat_lt _) l.length (plc big l.length p) (plc_lt big hp)
      exact this
    rw [hb, plc_plc big hp, List.getD_eq_getElem?_getD, List.getElem?_eq_getElem hp]
    simp
  · rw [List.getElem?_eq_none (by simp; omega), List.getElem?_eq_none (by omega)]; rfl
theorem putL_take (big : Bool) (l : List UInt8) (n : Nat) (h : l.length = n) : putL big (getL big l) n = l := by subst h; exact putL_getL big l
theorem pad_zero (X : List UInt8) (n : Nat) (h : X.all (· == 0) = true) (hl : X.length = (padZ (n % 4)).length) : X = padZ n := by
  rw [padZ_mod] at hl
  have : X = List.replicate X.length 0 := List.eq_replicate_iff.2 ⟨rfl, fun b hb => by have := List.all_eq_true.1 h b hb; simpa using this⟩
  rw [this, hl, padZ_length]; rfl
theorem noteR_back (big wide : Bool) : ∀ (f : Nat) (l : List UInt8) (es : List NoteD), noteR big f l = .ok es → l.length ≤ 1000000 →
    es.flatMap (noteL big wide) = l ∧ es.length ≤ l.length ∧ (∀ e ∈ es, e.ty < 4294967296 ∧ e.name.length ≤ l.length ∧ e.desc.length ≤ l.length)
  | 0, l, es, h, _ => by simp [noteR] at h
  | f + 1, l, es, h, hl => by
    rw [noteR] at h
    split at h
    · rename_i h0
      injection h with h
      subst h
      exact ⟨by rw [List.eq_nil_of_length_eq_zero h0]; rfl, by simp, by simp⟩
    · dsimp only at h
      split at h
      · cases h
      · rename_i hlen
        split at h
        · rename_i hz
          split at h
          · rename_i r hr
            injection h with h
            subst h
            obtain ⟨i1, i2, i3⟩ := noteR_back big wide f _ r hr (by rw [List.length_drop]; omega)
            obtain ⟨n, hn⟩ : ∃ n, n = getL big (l.take 4) := ⟨_, rfl⟩
            obtain ⟨d, hd⟩ : ∃ d, d = getL big ((l.drop 4).take 4) := ⟨_, rfl⟩
            obtain ⟨t, ht⟩ : ∃ t, t = getL big ((l.drop 8).take 4) := ⟨_, rfl⟩
            obtain ⟨p, hp⟩ : ∃ p, p = (padZ (n % 4)).length := ⟨_, rfl⟩
            obtain ⟨q, hq⟩ : ∃ q, q = (padZ (d % 4)).length := ⟨_, rfl⟩
            simp only [← hn, ← hd, ← ht, ← hp, ← hq] at hz i1 i2 i3 hlen ⊢
            have l4 : (l.take 4).length = 4 := by rw [List.length_take]; omega
            have l8 : ((l.drop 4).take 4).length = 4 := by rw [List.length_take, List.length_drop]; omega
            have l12 : ((l.drop 8).take 4).length = 4 := by rw [List.length_take, List.length_drop]; omega
            have ln : ((l.drop 12).take n).length = n := by rw [List.length_take, List.length_drop]; omega
            have ld : ((l.drop (12 + n + p)).take d).length = d := by rw [List.length_take, List.length_drop]; omega
            have lp : ((l.drop (12 + n)).take p).length = p := by rw [List.length_take, List.length_drop]; omega
            have lq : ((l.drop (12 + n + p + d)).take q).length = q := by rw [List.length_take, List.length_drop]; omega
            have e1 := putL_take big _ 4 l4
            have e2 := putL_take big _ 4 l8
            have e3 := putL_take big _ 4 l12
            rw [← hn] at e1
            rw [← hd] at e2
            rw [← ht] at e3
            rw [List.all_append, Bool.and_eq_true] at hz
            have zp := pad_zero _ n hz.1 (by rw [lp, hp])
            have zq := pad_zero _ d hz.2 (by rw [lq, hq])
            have t32 : t < 4294967296 := by have := getL_lt big ((l.drop 8).take 4); rw [l12, ← ht] at this; simpa using this
            have hfit : noteFit wide ⟨t, (l.drop 12).take n, (l.drop (12 + n + p)).take d⟩ = true := by
              rw [noteFit_iff wide _ (by rw [ln]; omega) (by rw [ld]; omega)]; exact decide_eq_true t32
            refine ⟨?_, ?_, ?_⟩
            · rw [List.flatMap_cons, noteL_eq big wide _ hfit, i1]
              simp only [ln, ld, e1, e2, e3, ← zp, ← zq, List.append_assoc]
              have s1 : ∀ (a b : Nat), (l.drop a).take b ++ l.drop (a + b) = l.drop a := fun a b => by rw [← List.drop_drop]; exact List.take_append_drop b (l.drop a)
              rw [s1 (12 + n + p + d) q, s1 (12 + n + p) d, s1 (12 + n) p, s1 12 n, s1 8 4, s1 4 4, List.take_append_drop]
            · rw [List.length_drop] at i2
              rw [List.length_cons]; omega
            · intro e he
              rcases List.mem_cons.1 he with rfl | he
              · exact ⟨t32, by rw [ln]; omega, by rw [ld]; omega⟩
              · have := i3 e he
                rw [List.length_drop] at this
                exact ⟨this.1, by omega, by omega⟩
          · cases h
        · cases h
end Go.Proofs.YtcfbdnlbgcoicaaDoorX.Notes

/- Plain law: DynrecNotes comes to true. -/
namespace Go.Proofs.YtcfbdnlbgcoicaaDoorX.Notes
set_option linter.unusedVariables false
set_option linter.unusedSimpArgs false
open Go.RowKit Go.Proofs.YtcfbdnlbgcoicaaDoor Go.Proofs.YtcfbdnlbgcoicaaDoorW.PrintWords Go.Proofs.YtcfbdnlbgcoicaaDoorW.PrintLast Go.Proofs.YtcfbdnlbgcoicaaDoorW.PrintMore

def of33 (e : NoteD) : S33 := ⟨(e.ty : Int), ⟨e.name.toArray⟩, ⟨e.desc.toArray⟩⟩
def cut40 (e : NoteD) : NoteD := ⟨e.ty, e.name.take 40, e.desc.take 40⟩
theorem to_of (e : NoteD) : toN (ofN e) = e := by cases e; simp [toN, ofN]
theorem back34 (es : List NoteD) : (es.map ofN).map toN = es := by
  rw [List.map_map]
  conv => rhs; rw [← List.map_id es]
  exact List.map_congr_left (fun e _ => to_of e)
theorem putNotes_f (big wide : Bool) (es : List NoteD) (hl : es.length ≤ 1000) (hns : ∀ e ∈ es, e.ty < 18446744073709551616 ∧ e.name.length < 1000000 ∧ e.desc.length < 1000000) (ht : (es.flatMap (noteL big wide)).length ≤ 1000000) :
    dynrec_PutNotes.f big wide (es.map ofN) = some (⟨(if es.all (noteFit wide) = true then es.flatMap (noteL big wide) else []).toArray⟩, es.all (noteFit wide)) := by
  unfold dynrec_PutNotes.f
  rw [back34, if_pos]
  refine ⟨by rw [List.length_map]; exact hl, ?_, ht⟩
  rw [List.all_eq_true]
  intro x hx
  obtain ⟨e, he, rfl⟩ := List.mem_map.1 hx
  have := hns e he
  refine decide_eq_true ⟨by simp only [ofN]; omega, by simp only [ofN]; omega, by simp only [ofN, ba_size]; omega, by simp only [ofN, ba_size]; omega⟩
theorem notes_f (big wide : Bool) (l : List UInt8) (hl : l.length ≤ 100000) : dynrec_Notes.f big wide ⟨l.toArray⟩ = (match noteR big (l.length + 1) l with | .ok es => some (es.map ofN, 0) | .error c => some ([], (c : Int))) := by
  unfold dynrec_Notes.f
  rw [if_pos (by rw [ba_size]; exact hl)]
  rfl
theorem take_mn (l : List UInt8) (n : Nat) : (l.drop 0).take (min l.length n - 0) = l.take n := by
  rw [List.drop_zero, Nat.sub_zero]
  rcases Nat.le_total l.length n with h | h
  · rw [Nat.min_eq_left h, List.take_length, List.take_of_length_le h]
  · rw [Nat.min_eq_right h]
theorem mn_nat (a b : Nat) : mn (a : Int) (b : Int) = ((min a b : Nat) : Int) := by
  unfold mn
  split
  · rw [Nat.min_eq_right (by omega)]
  · rw [Nat.min_eq_left (by omega)]
theorem junk_ev (big wide : Bool) (l : List UInt8) : Ev (fun k => graverlaw10_DynrecNotes.j5 k ⟨l.toArray⟩ big wide) true := by
  refine Ev.step (f := fun _ => some true) (fun k => ?_) (Ev.now _)
  have hmn : mn (((⟨l.toArray⟩ : ByteArray).size : Nat) : Int) 300 = ((min l.length 300 : Nat) : Int) := by rw [ba_size]; exact mn_nat _ 300
  simp only [graverlaw10_DynrecNotes.j5]
  rw [hmn, if_pos (by omega), if_pos (by rw [ba_size]; omega), Int.toNat_natCast, ext_list, take_mn]
  have hlen : (l.take 300).length ≤ 300 := by rw [List.length_take]; omega
  generalize l.take 300 = s at *
  rw [notes_f big wide s (by omega)]
  cases hr : noteR big (s.length + 1) s with
  | error c =>
    rcases noteR_err big _ _ _ hr with rfl | rfl <;> simp
  | ok es =>
    obtain ⟨b1, b2, b3⟩ := noteR_back big wide _ s es hr (by omega)
    have hall : es.all (noteFit wide) = true := by
      rw [List.all_eq_true]
      intro e he
      have := b3 e he
      rw [noteFit_iff wide e (by omega) (by omega)]; exact decide_eq_true this.1
    simp only [Option.bind_some, if_true]
    rw [putNotes_f big wide es (by omega) (fun e he => by have := b3 e he; omega) (by rw [b1]; omega), hall, b1]
    simp
theorem nl1_ev (big wide : Bool) (es : List NoteD) (hl : es.length ≤ 8) (s junk : List UInt8) (hcut : 0 < s.length → noteR big (s.length - 1 + 1) (s.take (s.length - 1)) = .error 3) (hs : s.length ≤ 100000) :
    ∀ d i, i + d = es.length → Ev (fun k => graverlaw10_DynrecNotes.l1 k ⟨junk.toArray⟩ (es.map ofN) ⟨s.toArray⟩ (es.map ofN) (i : Int) big wide) true := by
  intro d
  induction d with
  | zero =>
    intro i hi
    refine Ev.step (fun k => ?_) (junk_ev big wide junk)
    have hmx : mx (wrap64 ((((⟨s.toArray⟩ : ByteArray).size : Nat) : Int) - 1)) 0 = ((s.length - 1 : Nat) : Int) := by
      rw [ba_size, wrap_s (by omega) (by omega)]
      unfold mx
      split <;> omega
    simp only [graverlaw10_DynrecNotes.l1]
    rw [if_neg (by rw [List.length_map]; omega), hmx, if_pos (by omega), if_pos (by rw [ba_size]; omega), Int.toNat_natCast, ext_list, List.drop_zero, Nat.sub_zero, notes_f big wide _ (by rw [List.length_take]; omega)]
    by_cases h0 : 0 < s.length
    · have := hcut h0
      rw [show (s.take (s.length - 1)).length = s.length - 1 by rw [List.length_take]; omega, this]
      simp only [Option.bind_some]
      rw [if_pos (by rw [ba_size]; omega), if_pos (by rfl)]
    · have hz : s = [] := List.eq_nil_of_length_eq_zero (by omega)
      subst hz
      simp [noteR, ByteArray.size]
  | succ d ih =>
    intro i hi
    refine Ev.step (fun k => ?_) (ih (i + 1) (by omega))
    simp only [graverlaw10_DynrecNotes.l1]
    rw [if_pos (by rw [List.length_map]; omega), if_pos (by omega), if_pos (by rw [List.length_map]; omega), wrap_up i (by omega)]
    simp
theorem nlaw_end (big wide : Bool) (es : List NoteD) (hl : es.length ≤ 8) (hs : Short es) (junk : List UInt8) :
    Ev (fun k => graverlaw10_DynrecNotes.j1 k ⟨junk.toArray⟩ (es.map ofN) (es.map of35) big wide) true := by
  have hfl := flat_short big wide es hs
  have hp := putNotes_f big wide es (by omega) (fun e he => by have := hs e he; omega) (by omega)
  have hr := pn_ev big wide es hl hs
  refine Ev.step (f := fun k => (dynrec_PutNotes.f big wide (es.map ofN)).bind fun b => ((graverref10_PutNotes.f k big (es.map of35)).bind fun c => (if b.1.toList = c.1.toList then (graverlaw10_DynrecNotes.j2 k ⟨junk.toArray⟩ (es.map ofN) b.1 b.2 (b.2 != c.2) big wide) else (graverlaw10_DynrecNotes.j2 k ⟨junk.toArray⟩ (es.map ofN) b.1 b.2 true big wide)))) (fun k => rfl) ?_
  rw [hp]
  simp only [Option.bind_some]
  refine Ev.bind hr ?_
  simp only [if_true, bne_self_eq_false]
  by_cases hok : es.all (noteFit wide) = true
  · have hall : ∀ e ∈ es, e.name.length < 4294967296 ∧ e.desc.length < 4294967296 ∧ e.ty < 4294967296 := by
      intro e he
      have h1 := hs e he
      have h2 := List.all_eq_true.1 hok e he
      rw [noteFit_short wide e h1.2] at h2
      exact ⟨by omega, by omega, of_decide_eq_true h2⟩
    rw [hok]
    simp only [if_true]
    have hge : es.length ≤ (es.flatMap (noteL big wide)).length := by
      clear hfl hp hr hl
      induction es with
      | nil => simp
      | cons e r ih =>
        obtain ⟨h1, h2, h3⟩ := hall e (by simp)
        have hfit : noteFit wide e = true := by rw [noteFit_iff wide e h1 h2]; simpa using h3
        have := ih (fun x hx => hs x (by simp [hx])) (List.all_eq_true.2 fun x hx => List.all_eq_true.1 hok x (by simp [hx])) (fun x hx => hall x (by simp [hx]))
        rw [List.flatMap_cons, List.length_append, noteL_eq big wide e hfit, List.length_append, putL_length, List.length_cons]; omega
    have hcut := noteR_cut big wide es hall
    have hflat := noteR_flat big wide es hall
    generalize es.flatMap (noteL big wide) = S at *
    refine Ev.step (f := fun k => graverlaw10_DynrecNotes.j3 k ⟨junk.toArray⟩ (es.map ofN) ⟨S.toArray⟩ (es.map ofN) false big wide) (fun k => ?_) ?_
    · simp only [graverlaw10_DynrecNotes.j2, Bool.false_eq_true, if_false, if_true]
      rw [notes_f big wide S (by omega), hflat _ (by omega)]
      simp
    refine Ev.step (f := fun k => graverlaw10_DynrecNotes.l1 k ⟨junk.toArray⟩ (es.map ofN) ⟨S.toArray⟩ (es.map ofN) 0 big wide) (fun k => by simp [graverlaw10_DynrecNotes.j3]) ?_
    exact nl1_ev big wide es hl S junk (fun h => hcut h _) (by omega) es.length 0 (by omega)
  · have hok2 : es.all (noteFit wide) = false := by simpa using hok
    rw [hok2]
    refine Ev.step (fun k => ?_) (junk_ev big wide junk)
    simp [graverlaw10_DynrecNotes.j2]
theorem nlaw_loop (big wide : Bool) (ps : List NoteD) (hns : ∀ e ∈ ps, e.ty < 18446744073709551616) (junk : List UInt8) : ∀ d i, i + d = min ps.length 8 →
    Ev (fun k => graverlaw10_DynrecNotes.l0 k (ps.map of33) ⟨junk.toArray⟩ (((ps.map cut40).take i).map ofN) (((ps.map cut40).take i).map of35) (i : Int) big wide) true := by
  intro d
  induction d with
  | zero =>
    intro i hi
    have hfit : Short ((ps.map cut40).take i) := by
      intro e he
      obtain ⟨x, hx, rfl⟩ := List.mem_map.1 (List.mem_of_mem_take he)
      exact ⟨hns x hx, by simp only [cut40, List.length_take]; omega, by simp only [cut40, List.length_take]; omega⟩
    refine Ev.step (fun k => ?_) (nlaw_end big wide _ (by rw [List.length_take, List.length_map]; omega) hfit junk)
    simp only [graverlaw10_DynrecNotes.l0]
    by_cases h : (i : Int) < ((ps.map of33).length : Int)
    · rw [if_pos h, if_neg (by rw [List.length_map] at h; omega)]
    · rw [if_neg h]
  | succ d ih =>
    intro i hi
    have hil : i < ps.length := by omega
    obtain ⟨e, he⟩ : ∃ e, e = ps[i] := ⟨_, rfl⟩
    have hrd : rd_T33 (ps.map of33) (i : Int) = of33 e := by
      unfold rd_T33
      rw [Int.toNat_natCast, List.getD_eq_getElem?_getD, List.getElem?_map, List.getElem?_eq_getElem hil, he]; rfl
    have htk : (ps.map cut40).take (i + 1) = (ps.map cut40).take i ++ [cut40 e] := by rw [List.take_add_one, List.getElem?_map, List.getElem?_eq_getElem hil, he]; rfl
    have hlt : ((ps.map cut40).take i).length ≤ 8 := by rw [List.length_take]; omega
    have hih := ih (i + 1) (by omega)
    rw [htk, List.map_append, List.map_append] at hih
    have m1 : mn (((⟨e.name.toArray⟩ : ByteArray).size : Nat) : Int) 40 = ((min e.name.length 40 : Nat) : Int) := by rw [ba_size]; exact mn_nat _ 40
    have m2 : mn (((⟨e.desc.toArray⟩ : ByteArray).size : Nat) : Int) 40 = ((min e.desc.length 40 : Nat) : Int) := by rw [ba_size]; exact mn_nat _ 40
    refine Ev.step (fun k => ?_) hih
    simp only [graverlaw10_DynrecNotes.l0, hrd, Option.bind_some, of33, m1, m2, Int.toNat_natCast, ext_list, take_mn]
    rw [if_pos (by rw [List.length_map]; omega), if_pos (by omega), if_pos (by omega), if_pos (by omega), if_pos (by rw [ba_size]; omega), if_pos (by omega), if_pos (by rw [ba_size]; omega), if_pos (by simp; omega), if_pos (by simp; omega), wrap_up i (by omega)]
    rfl
theorem nlaw_true (a0 : Int) (ps : List NoteD) (hns : ∀ e ∈ ps, e.ty < 18446744073709551616) (junk : List UInt8) : ∃ k, graverlaw10_DynrecNotes.f k a0 (ps.map of33) ⟨junk.toArray⟩ = some true := by
  refine Ev.rounds ?_
  unfold graverlaw10_DynrecNotes.f graverlaw10_speaks.f graverlaw10_formOf.f
  simp only [Option.bind_some, if_true]
  exact nlaw_loop _ _ ps hns junk (min ps.length 8) 0 (by omega)
end Go.Proofs.YtcfbdnlbgcoicaaDoorX.Notes

/- The walk of DynrecNotes: it comes to true. -/
namespace Go.Proofs.YtcfbdnlbgcoicaaDoor
set_option linter.unusedVariables false
set_option linter.unusedSimpArgs false
open Go.RowKit Go.Proofs.YtcfbdnlbgcoicaaDoorX.Notes Go.Proofs.YtcfbdnlbgcoicaaDoorW.PrintWords

theorem notes_walk (x0 : Int) (l1 : List S33) (a1 : Option Addr) (c1 : Nat) (W : World) (mc : l1.length ≤ c1) (rC : Kd.C k33 W a1 l1.length l1) (ql : (∀ z ∈ l1, Q33 z) ∧ l1.length ≤ maxLen) (l2 : List UInt8) :
    Calls Tryd.prog 3 #[.int .i64 x0, .slice a1 l1.length c1, .string ⟨l2.toArray⟩] W fun e w' => e = .returned (.bool true) ∧ Below W.heap.size W w' := by
  obtain ⟨ps, hps⟩ : ∃ ps : List NoteD, ps = l1.map fun e => ⟨e.f0.toNat, e.f1.data.toList, e.f2.data.toList⟩ := ⟨_, rfl⟩
  have hb : ∀ z ∈ l1, 0 ≤ z.f0 ∧ z.f0 < 18446744073709551616 := by
    intro z hz
    have := (ql.1 z hz).1
    simp [Lit.wf, IntKind.min, IntKind.max, IntKind.signed, IntKind.bits] at this; omega
  have hback : ps.map of33 = l1 := by
    rw [hps, List.map_map]
    conv => rhs; rw [← List.map_id l1]
    refine List.map_congr_left (fun z hz => ?_)
    have := hb z hz
    cases z
    simp [of33, Int.toNat_of_nonneg this.1]
  have hty : ∀ e ∈ ps, e.ty < 18446744073709551616 := by
    intro e he
    rw [hps] at he
    obtain ⟨z, hz, rfl⟩ := List.mem_map.1 he
    have := hb z hz
    simp only; omega
  obtain ⟨k, hk⟩ := nlaw_true x0 ps hty l2
  rw [hback] at hk
  exact graverlaw10_DynrecNotes.calls k x0 a1 c1 l1 ⟨l2.toArray⟩ true W rC mc hk
end Go.Proofs.YtcfbdnlbgcoicaaDoor

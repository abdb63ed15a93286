/- Of no program: cells and their texts, rows and lines, as lists of bytes. -/
import Derived.Lib.Join
import Derived.Lib.Bytealg
import Derived.Test.YtipnoeffahnfaaaDoorKit
namespace Go.Proofs.YtipnoeffahnfaaaDoor
set_option linter.unusedVariables false
set_option linter.unusedSimpArgs false

/-- May a byte stand as it is? -/
def plainB (c : UInt8) : Bool := decide (33 ≤ c.toNat) && decide (c.toNat ≤ 126) && !(c == 37)
def capsL : List UInt8 := [48, 49, 50, 51, 52, 53, 54, 55, 56, 57, 65, 66, 67, 68, 69, 70]
def capD (n : Nat) : UInt8 := capsL.getD n 0
def encC (c : UInt8) : List UInt8 := if plainB c = true then [c] else [37, capD (c.toNat / 16), capD (c.toNat % 16)]
/-- The cell of a text. -/
def cellR (l : List UInt8) : List UInt8 := if l = [] then [37] else l.flatMap encC
/-- What a cell's bytes stand for, if they stand for any. -/
def decR : List UInt8 → Option (List UInt8)
  | [] => some []
  | [c] => if c = 37 then none else some [c]
  | [c, d] => if c = 37 then none else (decR [d]).map (c :: ·)
  | c :: h :: l :: r => if c = 37 then (if Lib.indexByte capsL h < 0 ∨ Lib.indexByte capsL l < 0 then none else (decR r).map (UInt8.ofNat ((Lib.indexByte capsL h).toNat * 16 + (Lib.indexByte capsL l).toNat) :: ·)) else (decR (h :: l :: r)).map (c :: ·)
/-- The text of a cell. -/
def textC (s : List UInt8) : Option (List UInt8) := if s = [37] then some [] else match decR s with
  | some t => if s ≠ [] ∧ cellR t = s then some t else none
  | none => none
theorem capD_index : ∀ n, n < 16 → Lib.indexByte capsL (capD n) = (n : Int) := by decide
theorem capD_ok : ∀ n, n < 16 → plainB (capD n) = true := by decide
theorem dec_plain (c : UInt8) : ∀ (r : List UInt8), c ≠ 37 → decR (c :: r) = (decR r).map (c :: ·)
  | [], h => by simp only [decR]; rw [if_neg h]; rfl
  | [d], h => by
    show (if c = 37 then none else (decR [d]).map (c :: ·)) = _
    rw [if_neg h]
  | d :: e :: r, h => by rw [decR, if_neg h]
theorem dec_mark (h l : UInt8) (r : List UInt8) (h1 : 0 ≤ Lib.indexByte capsL h) (h2 : 0 ≤ Lib.indexByte capsL l) : decR (37 :: h :: l :: r) = (decR r).map (UInt8.ofNat ((Lib.indexByte capsL h).toNat * 16 + (Lib.indexByte capsL l).toNat) :: ·) := by
  rw [decR, if_pos rfl, if_neg (by omega)]
theorem dec_bad (h l : UInt8) (r : List UInt8) (h1 : Lib.indexByte capsL h < 0 ∨ Lib.indexByte capsL l < 0) : decR (37 :: h :: l :: r) = none := by
  rw [decR, if_pos rfl, if_pos h1]
theorem dec_short : ∀ r : List UInt8, r.length < 2 → decR (37 :: r) = none
  | [], _ => rfl
  | [d], _ => rfl
  | _ :: _ :: _, h => by simp at h; omega
theorem plain_ne {c : UInt8} (h : plainB c = true) : c ≠ 37 ∧ c ≠ 32 ∧ c ≠ 10 := by
  unfold plainB at h
  simp only [Bool.and_eq_true, decide_eq_true_eq, Bool.not_eq_true', beq_eq_false_iff_ne] at h
  refine ⟨h.2, ?_, ?_⟩ <;> (rintro rfl; exact absurd h.1.1 (by decide))
theorem dec_enc : ∀ l : List UInt8, decR (l.flatMap encC) = some l
  | [] => rfl
  | c :: r => by
    rw [List.flatMap_cons]
    by_cases h : plainB c = true
    · rw [show encC c = [c] from if_pos h, List.cons_append, List.nil_append, dec_plain c _ (plain_ne h).1, dec_enc r]; rfl
    · have h1 := capD_index (c.toNat / 16) (by have := c.toNat_lt; omega)
      have h2 := capD_index (c.toNat % 16) (by omega)
      rw [show encC c = [37, capD (c.toNat / 16), capD (c.toNat % 16)] from if_neg h, List.cons_append, List.cons_append, List.cons_append, List.nil_append, dec_mark _ _ _ (by omega) (by omega), h1, h2, dec_enc r]
      simp only [Option.map_some, Int.toNat_natCast]
      rw [Nat.div_add_mod' c.toNat 16, UInt8.ofNat_toNat]
theorem enc_ne (c : UInt8) : encC c ≠ [] := by unfold encC; split <;> simp
theorem cell_ne (l : List UInt8) : cellR l ≠ [] := by
  unfold cellR
  split
  · simp
  · rename_i h
    obtain ⟨c, r, rfl⟩ := List.exists_cons_of_ne_nil h
    rw [List.flatMap_cons]
    intro h2
    exact enc_ne c (List.append_eq_nil_iff.1 h2).1
theorem enc_bytes (c b : UInt8) (h : b ∈ encC c) : plainB b = true ∨ b = 37 := by
  unfold encC at h
  split at h
  · rw [List.mem_singleton.1 h]; exact .inl (by assumption)
  · rcases List.mem_cons.1 h with h | h
    · exact .inr h
    · rcases List.mem_cons.1 h with h | h
      · rw [h]; exact .inl (capD_ok _ (by have := c.toNat_lt; omega))
      · rw [List.mem_singleton.1 h]; exact .inl (capD_ok _ (by omega))
theorem cell_bytes (l : List UInt8) (b : UInt8) (h : b ∈ cellR l) : b ≠ 32 ∧ b ≠ 10 := by
  have : plainB b = true ∨ b = 37 := by
    unfold cellR at h
    split at h
    · rw [List.mem_singleton.1 h]; exact .inr rfl
    · obtain ⟨c, _, hc⟩ := List.mem_flatMap.1 h
      exact enc_bytes c b hc
  rcases this with h | rfl
  · exact (plain_ne h).2
  · decide
theorem text_cell (l : List UInt8) : textC (cellR l) = some l := by
  unfold textC
  by_cases h : l = []
  · subst h; rfl
  · have hc : cellR l = l.flatMap encC := by unfold cellR; rw [if_neg h]
    have hne : cellR l ≠ [37] := by
      rw [hc]
      obtain ⟨c, r, rfl⟩ := List.exists_cons_of_ne_nil h
      rw [List.flatMap_cons]
      unfold encC
      split
      · rename_i h2
        intro e
        injection e with e _
        exact (plain_ne h2).1 e
      · intro e
        have := congrArg List.length e
        simp at this
    rw [if_neg hne, hc, dec_enc]
    simp only []
    rw [if_pos ⟨by rw [← hc]; exact cell_ne l, hc⟩]
theorem text_sound {s t : List UInt8} (h : textC s = some t) : cellR t = s := by
  unfold textC at h
  split at h
  · rename_i h1
    injection h with h
    rw [← h, h1]; rfl
  · split at h
    · split at h
      · rename_i h2
        injection h with h
        rw [← h]; exact h2.2
      · cases h
    · cases h
theorem text_nil : textC [] = none := by unfold textC; simp [decR]
theorem enc_len (c : UInt8) : (encC c).length ≤ 3 := by unfold encC; split <;> simp
theorem flat_enc_len : ∀ l : List UInt8, (l.flatMap encC).length ≤ 3 * l.length
  | [] => by simp
  | c :: r => by
    have := flat_enc_len r
    have := enc_len c
    rw [List.flatMap_cons, List.length_append, List.length_cons]; omega
theorem cell_len (l : List UInt8) : (cellR l).length ≤ 3 * l.length + 1 := by
  have := flat_enc_len l
  unfold cellR; split
  · simp
  · omega
theorem dec_len : ∀ (n : Nat) (s t : List UInt8), s.length ≤ n → decR s = some t → t.length ≤ s.length
  | 0, s, t, hn, h => by
    obtain rfl : s = [] := List.eq_nil_of_length_eq_zero (by omega)
    simp only [decR, Option.some.injEq] at h
    rw [← h]; simp
  | n + 1, [], t, hn, h => by
    simp only [decR, Option.some.injEq] at h
    rw [← h]; simp
  | n + 1, c :: r, t, hn, h => by
    rw [List.length_cons] at hn
    by_cases hc : c = 37
    · subst hc
      match r, h, hn with
      | [], h, _ => cases h
      | [_], h, _ => cases h
      | a :: b :: r2, h, hn =>
        by_cases hb : Lib.indexByte capsL a < 0 ∨ Lib.indexByte capsL b < 0
        · rw [dec_bad a b r2 hb] at h; cases h
        · rw [dec_mark a b r2 (by omega) (by omega)] at h
          obtain ⟨u, hu, rfl⟩ := Option.map_eq_some_iff.1 h
          have := dec_len n r2 u (by simp at hn; omega) hu
          simp only [List.length_cons]; omega
    · rw [dec_plain c r hc] at h
      obtain ⟨u, hu, rfl⟩ := Option.map_eq_some_iff.1 h
      have := dec_len n r u (by omega) hu
      simp only [List.length_cons]; omega
/-- The pieces between blanks. -/
def spl (b0 : UInt8) : List UInt8 → List (List UInt8)
  | [] => [[]]
  | b :: r => if b = b0 then [] :: spl b0 r else match spl b0 r with
    | p :: ps => (b :: p) :: ps
    | [] => [[b]]
theorem spl_ne (b0 : UInt8) : ∀ s, spl b0 s ≠ []
  | [] => by simp [spl]
  | b :: r => by
    unfold spl
    split
    · simp
    · split <;> simp
theorem spl_last (b0 : UInt8) : ∀ s : List UInt8, b0 ∉ s → spl b0 s = [s]
  | [], _ => rfl
  | b :: r, h => by
    have h2 := spl_last b0 r (fun h3 => h (List.mem_cons_of_mem _ h3))
    unfold spl
    rw [if_neg (fun e => h (by rw [e]; exact List.mem_cons_self)), h2]
theorem spl_cut (b0 : UInt8) : ∀ (s t : List UInt8), b0 ∉ s → spl b0 (s ++ b0 :: t) = s :: spl b0 t
  | [], t, _ => by rw [List.nil_append, spl, if_pos rfl]
  | b :: r, t, h => by
    have h2 := spl_cut b0 r t (fun h3 => h (List.mem_cons_of_mem _ h3))
    rw [List.cons_append, spl, if_neg (fun e => h (by rw [e]; exact List.mem_cons_self)), h2]
theorem spl_join (b0 : UInt8) : ∀ s : List UInt8, [b0].intercalate (spl b0 s) = s
  | [] => rfl
  | b :: r => by
    have ih := spl_join b0 r
    have hne := spl_ne b0 r
    unfold spl
    split
    · rename_i h
      obtain ⟨p, ps, hp⟩ := List.exists_cons_of_ne_nil hne
      rw [hp] at ih ⊢
      rw [h]
      have : [b0].intercalate ([] :: p :: ps) = b0 :: [b0].intercalate (p :: ps) := by simp [List.intercalate]
      rw [this, ih]
    · obtain ⟨p, ps, hp⟩ := List.exists_cons_of_ne_nil hne
      rw [hp] at ih ⊢
      simp only []
      have : [b0].intercalate ((b :: p) :: ps) = b :: [b0].intercalate (p :: ps) := by
        cases ps <;> simp [List.intercalate]
      rw [this, ih]
theorem join_spl (b0 : UInt8) : ∀ (p : List UInt8) (ps : List (List UInt8)), (∀ q ∈ p :: ps, b0 ∉ q) → spl b0 ([b0].intercalate (p :: ps)) = p :: ps
  | p, [], h => by
    have : [b0].intercalate [p] = p := by simp [List.intercalate]
    rw [this]; exact spl_last b0 p (h p (by simp))
  | p, q :: ps, h => by
    have : [b0].intercalate (p :: q :: ps) = p ++ b0 :: [b0].intercalate (q :: ps) := by simp [List.intercalate]
    rw [this, spl_cut b0 p _ (h p (by simp)), join_spl b0 q ps (fun x hx => h x (by simp at hx ⊢; rcases hx with h | h <;> simp [h]))]
/-- The texts of cells, if all have one. -/
def textsC : List (List UInt8) → Option (List (List UInt8))
  | [] => some []
  | p :: ps => match textC p, textsC ps with
    | some t, some ts => some (t :: ts)
    | _, _ => none
theorem texts_cells : ∀ l : List (List UInt8), textsC (l.map cellR) = some l
  | [] => rfl
  | x :: r => by rw [List.map_cons, textsC, text_cell, texts_cells r]
theorem texts_sound : ∀ {ps ts : List (List UInt8)}, textsC ps = some ts → ts.map cellR = ps
  | [], ts, h => by injection h with h; rw [← h]; rfl
  | p :: ps, ts, h => by
    unfold textsC at h
    split at h
    · rename_i t us h1 h2
      injection h with h
      rw [← h, List.map_cons, text_sound h1, texts_sound h2]
    · cases h
/-- A line's texts. -/
def rowC (s : List UInt8) : Option (List (List UInt8)) := if s = [] then some [] else textsC (spl 32 s)
/-- A row as a line, without its end. -/
def lineC (l : List (List UInt8)) : List UInt8 := [32].intercalate (l.map cellR)
theorem row_line (l : List (List UInt8)) : rowC (lineC l) = some l := by
  unfold rowC lineC
  cases l with
  | nil => rfl
  | cons x r =>
    rw [List.map_cons, join_spl 32 (cellR x) (r.map cellR) (fun q hq => by
      rw [← List.map_cons] at hq
      obtain ⟨y, _, rfl⟩ := List.mem_map.1 hq
      exact fun h => (cell_bytes y 32 h).1 rfl), if_neg, ← List.map_cons, texts_cells]
    intro h
    have h2 := spl_join 32 ([32].intercalate (cellR x :: r.map cellR))
    have : [32].intercalate (cellR x :: r.map cellR) = [] → cellR x = [] := by
      cases r <;> simp [List.intercalate]
    exact cell_ne x (this h)
theorem line_row {s : List UInt8} {l : List (List UInt8)} (h : rowC s = some l) : lineC l = s := by
  unfold rowC at h
  split at h
  · rename_i h1
    injection h with h
    rw [← h, h1]; rfl
  · have := texts_sound h
    unfold lineC
    rw [this, spl_join]
theorem line_bytes (l : List (List UInt8)) : (10 : UInt8) ∉ lineC l := by
  unfold lineC
  induction l with
  | nil => simp [List.intercalate]
  | cons x r ih =>
    cases r with
    | nil =>
      have : [32].intercalate ([x].map cellR) = cellR x := by simp [List.intercalate]
      rw [this]
      exact fun h => (cell_bytes x 10 h).2 rfl
    | cons y r =>
      have : [32].intercalate ((x :: y :: r).map cellR) = cellR x ++ 32 :: [32].intercalate ((y :: r).map cellR) := by simp [List.intercalate]
      rw [this]
      intro h
      rcases List.mem_append.1 h with h | h
      · exact (cell_bytes x 10 h).2 rfl
      · rcases List.mem_cons.1 h with h | h
        · cases h
        · exact ih h
/-- Lines, each ended; none: what is left has no end, or a line has no texts. -/
def parseC : Nat → List UInt8 → Option (List (List (List UInt8)))
  | 0, _ => some []
  | k + 1, s => if s = [] then some [] else match s.findIdx? (· == 10) with
    | none => none
    | some i => match rowC (s.take i), parseC k (s.drop (i + 1)) with
      | some r, some rs => some (r :: rs)
      | _, _ => none
def renderC (l : List (List (List UInt8))) : List UInt8 := l.flatMap fun r => lineC r ++ [10]
theorem find_end (a t : List UInt8) (h : (10 : UInt8) ∉ a) : (a ++ 10 :: t).findIdx? (· == 10) = some a.length := by
  rw [List.findIdx?_eq_some_iff_getElem]
  refine ⟨by simp, by simp, fun j hj => ?_⟩
  rw [List.getElem_append_left hj]
  simp only [beq_iff_eq, Bool.not_eq_true, decide_eq_false_iff_not]
  intro e
  exact h (by rw [← e]; exact List.getElem_mem hj)
theorem parse_render : ∀ (l : List (List (List UInt8))) (k : Nat), l.length ≤ k → parseC k (renderC l) = some l
  | [], 0, _ => rfl
  | [], k + 1, _ => by unfold parseC renderC; simp
  | r :: l, 0, h => by simp at h
  | r :: l, k + 1, h => by
    have ih := parse_render l k (by simpa using h)
    have he : renderC (r :: l) = lineC r ++ 10 :: renderC l := by unfold renderC; rw [List.flatMap_cons]; simp
    rw [he]
    unfold parseC
    rw [if_neg (by simp), find_end _ _ (line_bytes r)]
    simp only []
    rw [List.take_left, row_line, show (lineC r ++ 10 :: renderC l).drop ((lineC r).length + 1) = renderC l by
      rw [← List.drop_drop, List.drop_left]; rfl, ih]
theorem render_parse : ∀ (k : Nat) (s : List UInt8) (l : List (List (List UInt8))), s.length ≤ k → parseC k s = some l → renderC l = s
  | 0, s, l, hk, h => by
    obtain rfl : s = [] := List.eq_nil_of_length_eq_zero (by omega)
    injection h with h
    rw [← h]; rfl
  | k + 1, s, l, hk, h => by
    unfold parseC at h
    split at h
    · rename_i h1
      injection h with h
      rw [← h, h1]; rfl
    · split at h
      · cases h
      · rename_i i hi
        rw [List.findIdx?_eq_some_iff_getElem] at hi
        obtain ⟨hil, hi1, _⟩ := hi
        split at h
        · rename_i r rs hr hrs
          injection h with h
          have ih := render_parse k _ rs (by rw [List.length_drop]; omega) hrs
          have hl := line_row hr
          rw [← h]
          unfold renderC at ih ⊢
          rw [List.flatMap_cons, ih, hl, List.append_assoc]
          have : s[i] = 10 := by simpa using hi1
          conv => rhs; rw [← List.take_append_drop i s, List.drop_eq_getElem_cons hil, this]
          rfl
        · cases h
end Go.Proofs.YtipnoeffahnfaaaDoor

/- Names of models' symbols: the plain law; sorted keys. -/
import Derived.Test.YtkbamfiokhmpjaaGreatDoorXKdN27B
import Derived.Test.YtkbamfiokhmpjaaGreatDoorIter
namespace Go.Proofs.YtkbamfiokhmpjaaGreatDoor
set_option linter.unusedVariables false
set_option linter.unusedSimpArgs false
open Go.RowKit Go.Proofs.YtkbamfiokhmpjaaGreatDoorX.Kd Go.Proofs.YtkbamfiokhmpjaaGreatDoorW.PrintWords Go.Proofs.YtkbamfiokhmpjaaGreatDoorW.PrintLast Go.Proofs.YtkbamfiokhmpjaaGreatDoorW.PrintMore

/-- A symbol that may be taken, whatever was seen. -/
def takes0 (T : S81 → Bool → Bool) (s : S81) : Bool := (!s.f0.toList.isEmpty) && (bindR s != 0) && T s (undefB s)
theorem takes_iff (T : S81 → Bool → Bool) (st : List (List UInt8)) (s : S81) : takes T st s = true ↔ takes0 T s = true ∧ s.f0.data.toList ∉ st := by
  unfold takes takes0
  simp only [Bool.and_eq_true, Bool.not_eq_true', decide_eq_false_iff_not]
  constructor
  · rintro ⟨⟨⟨h1, h2⟩, h3⟩, h4⟩; exact ⟨⟨⟨h1, h2⟩, h4⟩, h3⟩
  · rintro ⟨⟨⟨h1, h2⟩, h4⟩, h3⟩; exact ⟨⟨⟨h1, h2⟩, h3⟩, h4⟩
theorem seenStep_mem (T : S81 → Bool → Bool) (st : List (List UInt8)) (s : S81) (n : List UInt8) : n ∈ seenStep T st s ↔ n ∈ st ∨ (takes0 T s = true ∧ s.f0.data.toList = n) := by
  unfold seenStep
  by_cases h : takes T st s = true
  · rw [if_pos h, List.mem_cons]
    have h1 := (takes_iff T st s).1 h
    constructor
    · rintro (rfl | h2)
      · exact .inr ⟨h1.1, rfl⟩
      · exact .inl h2
    · rintro (h2 | ⟨_, rfl⟩)
      · exact .inr h2
      · exact .inl rfl
  · rw [if_neg h]
    constructor
    · exact .inl
    · rintro (h2 | ⟨h2, rfl⟩)
      · exact h2
      · exact Classical.byContradiction fun h3 => h ((takes_iff T st s).2 ⟨h2, h3⟩)
theorem seenFold_mem (T : S81 → Bool → Bool) (n : List UInt8) : ∀ (l : List S81) (st : List (List UInt8)), n ∈ l.foldl (seenStep T) st ↔ n ∈ st ∨ ∃ s ∈ l, takes0 T s = true ∧ s.f0.data.toList = n
  | [], st => by simp
  | s :: l, st => by
    rw [List.foldl_cons, seenFold_mem T n l, seenStep_mem]
    constructor
    · rintro ((h | h) | ⟨x, hx, h⟩)
      · exact .inl h
      · exact .inr ⟨s, List.mem_cons_self, h⟩
      · exact .inr ⟨x, List.mem_cons_of_mem _ hx, h⟩
    · rintro (h | ⟨x, hx, h⟩)
      · exact .inl (.inl h)
      · rcases List.mem_cons.1 hx with rfl | hx
        · exact .inl (.inr h)
        · exact .inr ⟨x, hx, h⟩
theorem seenCs_mem (T : S81 → Bool → Bool) (n : List UInt8) : ∀ (L : List S80) (st : List (List UInt8)), n ∈ L.foldl (seenC T) st ↔ n ∈ st ∨ ∃ c ∈ L, ∃ s ∈ c.f10.drop 1, takes0 T s = true ∧ s.f0.data.toList = n
  | [], st => by simp
  | c :: L, st => by
    rw [List.foldl_cons, seenCs_mem T n L]
    unfold seenC
    rw [seenFold_mem]
    constructor
    · rintro ((h | h) | ⟨x, hx, h⟩)
      · exact .inl h
      · exact .inr ⟨c, List.mem_cons_self, h⟩
      · exact .inr ⟨x, List.mem_cons_of_mem _ hx, h⟩
    · rintro (h | ⟨x, hx, h⟩)
      · exact .inl (.inl h)
      · rcases List.mem_cons.1 hx with rfl | hx
        · exact .inl (.inr h)
        · exact .inr ⟨x, hx, h⟩
theorem seenM_mem (T : S81 → Bool → Bool) (n : List UInt8) (L : List S80) : n ∈ seenM T L ↔ ∃ c ∈ L, ∃ s ∈ c.f10.drop 1, takes0 T s = true ∧ s.f0.data.toList = n := by
  unfold seenM
  rw [seenCs_mem]; simp
theorem seenStep_nodup (T : S81 → Bool → Bool) (st : List (List UInt8)) (s : S81) (h : st.Nodup) : (seenStep T st s).Nodup := by
  unfold seenStep
  split
  · rename_i ht
    exact List.nodup_cons.2 ⟨((takes_iff T st s).1 ht).2, h⟩
  · exact h
theorem seenFold_nodup (T : S81 → Bool → Bool) : ∀ (l : List S81) (st : List (List UInt8)), st.Nodup → (l.foldl (seenStep T) st).Nodup
  | [], st, h => h
  | s :: l, st, h => seenFold_nodup T l _ (seenStep_nodup T st s h)
theorem seenCs_nodup (T : S81 → Bool → Bool) : ∀ (L : List S80) (st : List (List UInt8)), st.Nodup → (L.foldl (seenC T) st).Nodup
  | [], st, h => h
  | c :: L, st, h => seenCs_nodup T L _ (seenFold_nodup T _ st h)
theorem seenM_nodup (T : S81 → Bool → Bool) (L : List S80) : (seenM T L).Nodup := seenCs_nodup T L [] List.nodup_nil
theorem incsF_mem (T : S81 → Bool → Bool) (n : List UInt8) : ∀ (ms : List MdD) (st : List (List UInt8)), n ∈ ms.foldl (fun st m => seenM T m.L ++ st) st ↔ n ∈ st ∨ ∃ m ∈ ms, n ∈ seenM T m.L
  | [], st => by simp
  | m :: ms, st => by
    rw [List.foldl_cons, incsF_mem T n ms, List.mem_append]
    constructor
    · rintro ((h | h) | ⟨x, hx, h⟩)
      · exact .inr ⟨m, List.mem_cons_self, h⟩
      · exact .inl h
      · exact .inr ⟨x, List.mem_cons_of_mem _ hx, h⟩
    · rintro (h | ⟨x, hx, h⟩)
      · exact .inl (.inr h)
      · rcases List.mem_cons.1 hx with rfl | hx
        · exact .inl (.inl h)
        · exact .inr ⟨x, hx, h⟩
theorem incsM_mem (T : S81 → Bool → Bool) (n : List UInt8) (ms : List MdD) : n ∈ incsM T ms ↔ ∃ m ∈ ms, n ∈ seenM T m.L := by
  unfold incsM
  rw [incsF_mem]; simp
theorem seenCs_len (T : S81 → Bool → Bool) : ∀ (L : List S80) (st : List (List UInt8)), (∀ c ∈ L, c.f10.length ≤ 17) → (L.foldl (seenC T) st).length ≤ st.length + 17 * L.length
  | [], st, _ => by simp
  | c :: L, st, h => by
    rw [List.foldl_cons, List.length_cons]
    have h1 := seenCs_len T L (seenC T st c) (fun x hx => h x (List.mem_cons_of_mem _ hx))
    have h2 : (seenC T st c).length ≤ st.length + 17 := by
      unfold seenC
      have h3 := seenFold_len T (c.f10.drop 1) st
      have h4 := h c List.mem_cons_self
      rw [List.length_drop] at h3
      omega
    omega
theorem incsF_len (T : S81 → Bool → Bool) : ∀ (ms : List MdD) (st : List (List UInt8)), (∀ m ∈ ms, m.L.length ≤ 13 ∧ ∀ c ∈ m.L, c.f10.length ≤ 17) → (ms.foldl (fun st m => seenM T m.L ++ st) st).length ≤ st.length + 221 * ms.length
  | [], st, _ => by simp
  | m :: ms, st, h => by
    rw [List.foldl_cons, List.length_cons]
    have h1 := incsF_len T ms (seenM T m.L ++ st) (fun x hx => h x (List.mem_cons_of_mem _ hx))
    have h2 := seenCs_len T m.L [] (h m List.mem_cons_self).2
    have h3 := (h m List.mem_cons_self).1
    rw [List.length_append] at h1
    have h4 : (seenM T m.L).length ≤ 17 * m.L.length := by unfold seenM; simpa using h2
    omega
theorem incsM_len (T : S81 → Bool → Bool) (ms : List MdD) (h : okMs ms) : (incsM T ms).length ≤ 884 := by
  have h1 := incsF_len T ms [] (fun m hm => ⟨(h.2 m hm).1, fun c hc => ((h.2 m hm).2 c hc).1⟩)
  have h2 := h.1
  unfold incsM
  simp only [List.length_nil, Nat.zero_add] at h1
  omega
theorem incsM_short (T : S81 → Bool → Bool) (ms : List MdD) (h : okMs ms) : ∀ n ∈ incsM T ms, n.length ≤ 1000 := by
  intro n hn
  obtain ⟨m, hm, h1⟩ := (incsM_mem T n ms).1 hn
  obtain ⟨c, hc, s, hs, _, rfl⟩ := (seenM_mem T n m.L).1 h1
  have h2 := ((h.2 m hm).2 c hc).2 s (List.drop_subset 1 c.f10 hs)
  exact h2
/-- How many models have a name among what is taken of them. -/
theorem incsF_count (T : S81 → Bool → Bool) (n : List UInt8) : ∀ (ms : List MdD) (st : List (List UInt8)), (ms.foldl (fun st m => seenM T m.L ++ st) st).count n = st.count n + ms.countP (fun m => decide (n ∈ seenM T m.L))
  | [], st => by simp
  | m :: ms, st => by
    rw [List.foldl_cons, incsF_count T n ms, List.count_append, List.countP_cons]
    by_cases h : n ∈ seenM T m.L
    · rw [List.Nodup.count (seenM_nodup T m.L), if_pos h, if_pos (decide_eq_true h)]; omega
    · rw [List.count_eq_zero.2 h, if_neg (by simpa using h)]; omega
theorem incsM_count (T : S81 → Bool → Bool) (n : List UInt8) (ms : List MdD) : (incsM T ms).count n = ms.countP (fun m => decide (n ∈ seenM T m.L)) := by
  unfold incsM
  rw [incsF_count]; simp
def dedup : List (List UInt8) → List (List UInt8)
  | [] => []
  | x :: r => if x ∈ r then dedup r else x :: dedup r
theorem mem_dedup (s : List UInt8) : ∀ ss, s ∈ dedup ss ↔ s ∈ ss
  | [] => Iff.rfl
  | x :: r => by
    unfold dedup
    split
    · rename_i h; rw [mem_dedup s r, List.mem_cons]; exact ⟨.inr, fun h2 => h2.elim (fun e => e ▸ h) id⟩
    · rw [List.mem_cons, List.mem_cons, mem_dedup s r]
theorem nodup_dedup : ∀ ss, (dedup ss).Nodup
  | [] => List.nodup_nil
  | x :: r => by
    unfold dedup
    split
    · exact nodup_dedup r
    · rename_i h; exact List.nodup_cons.2 ⟨fun h2 => h ((mem_dedup x r).1 h2), nodup_dedup r⟩
theorem len_dedup : ∀ ss, (dedup ss).length ≤ ss.length
  | [] => Nat.le_refl _
  | x :: r => by
    unfold dedup
    have := len_dedup r
    split <;> simp <;> omega
/-- The keys of the map of counts. -/
theorem cnt_keys {W : World} {b n : Nat} {ss : List (List UInt8)} (h : W.ownsMap Tryz.prog 9 (plainElem (H := Unit) Tryz.prog 3) b n (cntD ss)) : (dedup ss).Perm (strKeys (cntD ss)) := by
  obtain ⟨es, hD, hp, hl⟩ := h.entries (Maps.string_keyed Tryz.underlying9)
  obtain ⟨es', hD', hk⟩ := h.keysOf
  have he : es' = es := by rw [hD] at hD'; injection hD' with h; exact h.symm
  subst he
  have hm := fun x => cntD_has x ss
  rw [hD] at hm ⊢
  exact perm_strKeys hp (fun p hp => by
    obtain ⟨key, hkey⟩ := hk p hp
    obtain ⟨x, _, hx, _⟩ := Maps.keyOf_str Tryz.underlying9 hkey
    exact ⟨x, hx⟩) (nodup_dedup ss) (fun x => (mem_dedup x ss).trans (hm x).symm)
theorem cnt_size {W : World} {b n : Nat} {ss : List (List UInt8)} (h : W.ownsMap Tryz.prog 9 (plainElem (H := Unit) Tryz.prog 3) b n (cntD ss)) : Maps.size (cntD ss) ≤ ss.length := by
  obtain ⟨es, hes, _⟩ := h.entries (Maps.string_keyed Tryz.underlying9)
  have h1 := (cnt_keys h).length_eq
  have h3 := len_dedup ss
  rw [hes] at h1 ⊢
  have h2 : (strKeys (.map es : DataW Unit)).length = es.length := by simp [strKeys]
  show es.length ≤ _
  omega
def toBA (l : List UInt8) : ByteArray := ⟨l.toArray⟩
/-- Sorted keys. -/
theorem sorted_facts {W : World} {base : Nat} {v : Value} {s2 ss : List (List UInt8)} (hS : s2.Perm (strKeys (cntD ss))) (hP : (dedup ss).Perm (strKeys (cntD ss))) (hrow : W.ownsRow base 9 1 v s2.length ((s2.mergeSort (fun x y => decide (x ≤ y))).map encStr)) :
    ∃ ks : List (List UInt8), Kd.R Kd.string 9 W base (fun _ => True) v (ks.map toBA) ∧ ks.Pairwise (· < ·) ∧ (∀ s, s ∈ ks ↔ s ∈ ss) ∧ ks.length ≤ ss.length := by
  have hQ := hS.trans hP.symm
  refine ⟨s2.mergeSort (fun x y => decide (x ≤ y)), ?_, ?_, ?_, ?_⟩
  · refine Kd.R_of_own ?_ (fun _ _ => trivial)
    rw [List.length_map, List.length_mergeSort]
    refine cast ?_ hrow
    congr 1
    simp [encs, encStr, toBA]
  · have tr : ∀ x y z : List UInt8, decide (x ≤ y) = true → decide (y ≤ z) = true → decide (x ≤ z) = true := fun x y z h1 h2 => by simp only [decide_eq_true_eq] at *; exact List.le_trans h1 h2
    have tot : ∀ x y : List UInt8, (decide (x ≤ y) || decide (y ≤ x)) = true := fun x y => by simp only [Bool.or_eq_true, decide_eq_true_eq]; exact List.le_total x y
    have h1 := List.pairwise_mergeSort tr tot s2
    have h2 : (s2.mergeSort (fun x y => decide (x ≤ y))).Nodup := ((List.mergeSort_perm s2 _).nodup_iff).2 (hQ.nodup_iff.2 (nodup_dedup ss))
    refine (h1.and h2).imp ?_
    rintro x y ⟨h3, h4⟩
    rw [decide_eq_true_eq] at h3
    exact Std.lt_of_le_of_ne h3 h4
  · intro s
    rw [List.mem_mergeSort, hQ.mem_iff, mem_dedup]
  · rw [List.length_mergeSort, hQ.length_eq]; exact len_dedup ss
end Go.Proofs.YtkbamfiokhmpjaaGreatDoor

/- NmMissing: the plain law, and what stands in its loops. -/
namespace Go.Proofs.YtkbamfiokhmpjaaGreatDoor
set_option linter.unusedVariables false
set_option linter.unusedSimpArgs false
open Go.RowKit Go.Proofs.YtkbamfiokhmpjaaGreatDoorX.Kd Go.Proofs.YtkbamfiokhmpjaaGreatDoorW.PrintWords Go.Proofs.YtkbamfiokhmpjaaGreatDoorW.PrintLast Go.Proofs.YtkbamfiokhmpjaaGreatDoorW.PrintMore

/-- Folds over a section's symbols, the nought-th apart. -/
def fK {α : Type} (f : α → S81 → α) (a : α) (c : S80) (k : Nat) : α := ((c.f10.take k).drop 1).foldl f a
def fC {α : Type} (f : α → S81 → α) (a : α) (c : S80) : α := (c.f10.drop 1).foldl f a
def fM {α : Type} (f : α → S81 → α) (a : α) (L : List S80) : α := L.foldl (fC f) a
def fA {α : Type} (f : α → S81 → α) (a : α) (ms : List MdD) : α := ms.foldl (fun a m => fM f a m.L) a
theorem fK_one {α : Type} (f : α → S81 → α) (a : α) (c : S80) : fK f a c 1 = a := by
  unfold fK
  rw [List.drop_eq_nil_of_le (by rw [List.length_take]; omega)]; rfl
theorem fK_succ {α : Type} (f : α → S81 → α) (a : α) (c : S80) (k : Nat) (h : k < c.f10.length) (h0 : 0 < k) : fK f a c (k + 1) = f (fK f a c k) c.f10[k] := by
  unfold fK
  rw [drop_take_succ c.f10 k h h0, List.foldl_append]; rfl
theorem fK_all {α : Type} (f : α → S81 → α) (a : α) (c : S80) (k : Nat) (h : c.f10.length ≤ k) : fK f a c k = fC f a c := by
  unfold fK fC
  rw [List.take_of_length_le h]
theorem fM_succ {α : Type} (f : α → S81 → α) (a : α) (L : List S80) (k : Nat) (h : k < L.length) : fM f a (L.take (k + 1)) = fC f (fM f a (L.take k)) L[k] := by
  unfold fM
  rw [List.take_succ_eq_append_getElem h, List.foldl_append]; rfl
theorem fA_snoc {α : Type} (f : α → S81 → α) (a : α) (ms : List MdD) (m : MdD) : fA f a (ms ++ [m]) = fM f (fA f a ms) m.L := by
  unfold fA
  rw [List.foldl_append]; rfl
def elig (s : S81) : Bool := (!s.f0.toList.isEmpty) && (bindR s != 0)
def ndStep (a : List (List UInt8 × Bool)) (s : S81) : List (List UInt8 × Bool) := if (elig s && undefB s) = true then (s.f0.data.toList, bindR s != 2) :: a else a
def dfStep (a : List (List UInt8)) (s : S81) : List (List UInt8) := if (elig s && !undefB s) = true then s.f0.data.toList :: a else a
def valOf (n : List UInt8) (l : List (List UInt8 × Bool)) : Bool := l.any fun p => decide (p.1 = n) && p.2
def needD : List (List UInt8 × Bool) → DataW Unit
  | [] => .map []
  | p :: r => (needD r).put (.string p.1) (.lit (.bool (valOf p.1 r || p.2)))
theorem needD_isMap : ∀ ss, Maps.IsMap (needD ss)
  | [] => Maps.isMap_empty
  | s :: r => (needD_isMap r).put _ _
theorem valOf_cons (n : List UInt8) (p : List UInt8 × Bool) (r : List (List UInt8 × Bool)) : valOf n (p :: r) = ((decide (p.1 = n) && p.2) || valOf n r) := rfl
theorem need_at (s : List UInt8) : ∀ ss : List (List UInt8 × Bool), (needD ss).atKey (.string s) (.lit (.bool false)) = .lit (.bool (valOf s ss))
  | [] => rfl
  | x :: r => by
    unfold needD
    rw [valOf_cons]
    by_cases h : s = x.1
    · subst h
      rw [Maps.atKey_put_same (needD_isMap r) (by simp [WideAt.IsKeyLit])]
      simp [Bool.or_comm]
    · rw [Maps.atKey_put_other (fun e => h (by injection e)), need_at s r]
      rw [show decide (x.1 = s) = false from decide_eq_false (fun e => h e.symm), Bool.false_and, Bool.false_or]
theorem needD_has (s : List UInt8) : ∀ ss : List (List UInt8 × Bool), Maps.has (needD ss) (.string s) = true ↔ s ∈ ss.map (·.1)
  | [] => by simp [needD, Maps.has_eq]
  | x :: r => by
    unfold needD
    by_cases h : s = x.1
    · subst h
      rw [Maps.has_put_same (needD_isMap r) (by simp [WideAt.IsKeyLit])]
      simp
    · rw [Maps.has_put_other (fun e => h (by injection e)), needD_has s r]
      simp [h]
theorem need_look {W : World} {b n : Nat} {ss : List (List UInt8 × Bool)} (h : W.ownsMap Tryz.prog 9 (plainElem (H := Unit) Tryz.prog 4) b n (needD ss)) (s : ByteArray) (hs : s.size ≤ maxLen) :
    (Instr.lookup 25 (.map (some b)) (.string s) false).run Tryz.prog W = .ok (.bool (valOf s.data.toList ss)) W := by
  obtain ⟨v, ps, hrun, hv⟩ := h.lookup (Maps.string_keyed Tryz.underlying9) Tryz.underlying25 (Tryz.zeroValue4 W) (plainElem_bool Tryz.underlying4 false) (Go.WideMaps.keyOf_string_mk Tryz.underlying9 hs)
  rw [need_at] at hv
  rw [hrun]
  cases v <;> simp [plainElem, Tryz.underlying4] at hv
  rw [hv.1]
theorem need_upd {W : World} {b n : Nat} {ss : List (List UInt8 × Bool)} (h : W.ownsMap Tryz.prog 9 (plainElem (H := Unit) Tryz.prog 4) b n (needD ss)) (s : ByteArray) (hs : s.size ≤ maxLen) (hn : n < maxLen) (v q : Bool) (hv : v = (valOf s.data.toList ss || q)) :
    ∃ W3, (Instr.mapUpdate 25 (.map (some b)) (.string s) (.bool v)).run Tryz.prog W = .ok () W3 ∧ W3.ownsMap Tryz.prog 9 (plainElem (H := Unit) Tryz.prog 4) b (n + 1) (needD ((s.data.toList, q) :: ss)) ∧ W.grownBy W3 (some b) := by
  obtain ⟨W3, hrun3, hown3, hg3⟩ := h.update (Maps.string_keyed Tryz.underlying9) Tryz.underlying25 hn (Go.WideMaps.keyOf_string_mk Tryz.underlying9 hs) (plainElem_bool Tryz.underlying4 v)
  subst hv
  exact ⟨W3, hrun3, hown3, hg3⟩
/-- What the folds say. -/
theorem nd_mem (n : List UInt8) : ∀ (l : List S81) (a : List (List UInt8 × Bool)), valOf n (l.foldl ndStep a) = true ↔ valOf n a = true ∨ ∃ s ∈ l, takes0 tNeed s = true ∧ s.f0.data.toList = n
  | [], a => by simp
  | s :: l, a => by
    rw [List.foldl_cons, nd_mem n l]
    have h1 : valOf n (ndStep a s) = true ↔ valOf n a = true ∨ (takes0 tNeed s = true ∧ s.f0.data.toList = n) := by
      unfold ndStep
      by_cases h : (elig s && undefB s) = true
      · rw [if_pos h, valOf_cons, Bool.or_eq_true, Bool.and_eq_true, decide_eq_true_eq]
        rw [Bool.and_eq_true] at h
        have e : takes0 tNeed s = (bindR s != 2) := by
          unfold takes0 tNeed
          rw [h.2, Bool.true_and]
          have h3 := h.1
          unfold elig at h3
          rw [h3, Bool.true_and]
        rw [e]
        constructor
        · rintro (⟨h4, h5⟩ | h4)
          · exact .inr ⟨h5, h4⟩
          · exact .inl h4
        · rintro (h4 | ⟨h5, h4⟩)
          · exact .inr h4
          · exact .inl ⟨h4, h5⟩
      · rw [if_neg h]
        constructor
        · exact .inl
        · rintro (h4 | ⟨h5, _⟩)
          · exact h4
          · exfalso; apply h
            unfold takes0 tNeed at h5
            unfold elig
            simp only [Bool.and_eq_true] at h5 ⊢
            exact ⟨h5.1, h5.2.1⟩
    rw [h1]
    constructor
    · rintro ((h | h) | ⟨x, hx, h⟩)
      · exact .inl h
      · exact .inr ⟨s, List.mem_cons_self, h⟩
      · exact .inr ⟨x, List.mem_cons_of_mem _ hx, h⟩
    · rintro (h | ⟨x, hx, h⟩)
      · exact .inl (.inl h)
      · rcases List.mem_cons.1 hx with rfl | hx
        · exact .inl (.inr h)
        · exact .inr ⟨x, hx, h⟩
theorem df_mem (n : List UInt8) : ∀ (l : List S81) (a : List (List UInt8)), n ∈ l.foldl dfStep a ↔ n ∈ a ∨ ∃ s ∈ l, takes0 tDef s = true ∧ s.f0.data.toList = n
  | [], a => by simp
  | s :: l, a => by
    rw [List.foldl_cons, df_mem n l]
    have h1 : n ∈ dfStep a s ↔ n ∈ a ∨ (takes0 tDef s = true ∧ s.f0.data.toList = n) := by
      unfold dfStep
      have e : (elig s && !undefB s) = takes0 tDef s := rfl
      rw [e]
      by_cases h : takes0 tDef s = true
      · rw [if_pos h, List.mem_cons]
        constructor
        · rintro (h4 | h4)
          · exact .inr ⟨h, h4.symm⟩
          · exact .inl h4
        · rintro (h4 | ⟨_, h4⟩)
          · exact .inr h4
          · exact .inl h4.symm
      · rw [if_neg h]
        exact ⟨.inl, fun h4 => h4.elim id (fun h5 => absurd h5.1 h)⟩
    rw [h1]
    constructor
    · rintro ((h | h) | ⟨x, hx, h⟩)
      · exact .inl h
      · exact .inr ⟨s, List.mem_cons_self, h⟩
      · exact .inr ⟨x, List.mem_cons_of_mem _ hx, h⟩
    · rintro (h | ⟨x, hx, h⟩)
      · exact .inl (.inl h)
      · rcases List.mem_cons.1 hx with rfl | hx
        · exact .inl (.inr h)
        · exact .inr ⟨x, hx, h⟩
theorem fM_mem {α : Type} {f : α → S81 → α} {P : α → Prop} {Q : S81 → Prop} (h : ∀ (l : List S81) (a : α), P (l.foldl f a) ↔ P a ∨ ∃ s ∈ l, Q s) : ∀ (L : List S80) (a : α), P (fM f a L) ↔ P a ∨ ∃ c ∈ L, ∃ s ∈ c.f10.drop 1, Q s
  | [], a => by simp [fM]
  | c :: L, a => by
    show P (fM f (fC f a c) L) ↔ _
    rw [fM_mem h L]
    unfold fC
    rw [h]
    constructor
    · rintro ((h | h) | ⟨x, hx, h⟩)
      · exact .inl h
      · exact .inr ⟨c, List.mem_cons_self, h⟩
      · exact .inr ⟨x, List.mem_cons_of_mem _ hx, h⟩
    · rintro (h | ⟨x, hx, h⟩)
      · exact .inl (.inl h)
      · rcases List.mem_cons.1 hx with rfl | hx
        · exact .inl (.inr h)
        · exact .inr ⟨x, hx, h⟩
theorem fA_mem {α : Type} {f : α → S81 → α} {P : α → Prop} {Q : S81 → Prop} (h : ∀ (l : List S81) (a : α), P (l.foldl f a) ↔ P a ∨ ∃ s ∈ l, Q s) : ∀ (ms : List MdD) (a : α), P (fA f a ms) ↔ P a ∨ ∃ m ∈ ms, ∃ c ∈ m.L, ∃ s ∈ c.f10.drop 1, Q s
  | [], a => by simp [fA]
  | m :: ms, a => by
    show P (fA f (fM f a m.L) ms) ↔ _
    rw [fA_mem h ms, fM_mem h]
    constructor
    · rintro ((h | h) | ⟨x, hx, h⟩)
      · exact .inl h
      · exact .inr ⟨m, List.mem_cons_self, h⟩
      · exact .inr ⟨x, List.mem_cons_of_mem _ hx, h⟩
    · rintro (h | ⟨x, hx, h⟩)
      · exact .inl (.inl h)
      · rcases List.mem_cons.1 hx with rfl | hx
        · exact .inl (.inr h)
        · exact .inr ⟨x, hx, h⟩
theorem need_iff (ms : List MdD) (n : List UInt8) : valOf n (fA ndStep [] ms) = true ↔ n ∈ incsM tNeed ms := by
  rw [fA_mem (P := fun a => valOf n a = true) (fun l a => nd_mem n l a), incsM_mem]
  constructor
  · rintro (h | ⟨m, hm, c, hc, h⟩)
    · cases h
    · exact ⟨m, hm, (seenM_mem _ _ _).2 ⟨c, hc, h⟩⟩
  · rintro ⟨m, hm, h⟩
    obtain ⟨c, hc, h⟩ := (seenM_mem _ _ _).1 h
    exact .inr ⟨m, hm, c, hc, h⟩
theorem def_iff (ms : List MdD) (n : List UInt8) : n ∈ fA dfStep [] ms ↔ n ∈ incsM tDef ms := by
  rw [fA_mem (P := fun a => n ∈ a) (fun l a => df_mem n l a), incsM_mem]
  constructor
  · rintro (h | ⟨m, hm, c, hc, h⟩)
    · cases h
    · exact ⟨m, hm, (seenM_mem _ _ _).2 ⟨c, hc, h⟩⟩
  · rintro ⟨m, hm, h⟩
    obtain ⟨c, hc, h⟩ := (seenM_mem _ _ _).1 h
    exact .inr ⟨m, hm, c, hc, h⟩
/-- What stands in NmMissing's inner loops. -/
structure InSt (w wx : World) (gN gD gU gS g0 n : Nat) (NL : List (List UInt8 × Bool)) (DL UL SN : List (List UInt8)) (MB : Array Value) (v9 : Value) (LS : List S54) (va : Value) (ms : List MdD) : Prop where
  need : wx.ownsMap Tryz.prog 9 (plainElem (H := Unit) Tryz.prog 4) gN n (needD NL)
  defd : wx.ownsMap Tryz.prog 9 (plainElem (H := Unit) Tryz.prog 4) gD n (nameD DL)
  dbl : wx.ownsMap Tryz.prog 9 (plainElem (H := Unit) Tryz.prog 3) gU n (cntD UL)
  seen : wx.ownsMap Tryz.prog 9 (plainElem (H := Unit) Tryz.prog 4) gS n (nameD SN)
  len : UL.length ≤ n
  box : wx.heap[g0]? = some (.cells MB 31 (0, 0))
  secs : Kd.R k54 54 wx w.heap.size (fun k => k ≠ gN ∧ k ≠ gD ∧ k ≠ gU ∧ k ≠ gS) v9 LS
  mods : Kd.R kMod 48 wx w.heap.size (fun k => k ≠ gN ∧ k ≠ gD ∧ k ≠ gU ∧ k ≠ gS) va ms
  low : Below w.heap.size w wx
  d1 : gN ≠ gD
  d2 : gN ≠ gU
  d3 : gN ≠ gS
  d4 : gD ≠ gU
  d5 : gD ≠ gS
  d6 : gU ≠ gS
  e1 : g0 ≠ gN
  e2 : g0 ≠ gD
  e3 : g0 ≠ gU
  e4 : g0 ≠ gS
  f1 : w.heap.size ≤ gN
  f2 : w.heap.size ≤ gD
  f3 : w.heap.size ≤ gU
  f4 : w.heap.size ≤ gS
theorem InSt.below {w wx wy : World} {gN gD gU gS g0 n : Nat} {NL : List (List UInt8 × Bool)} {DL UL SN : List (List UInt8)} {MB : Array Value} {v9 : Value} {LS : List S54} {va : Value} {ms : List MdD} (h : InSt w wx gN gD gU gS g0 n NL DL UL SN MB v9 LS va ms) (hb : Below wx.heap.size wx wy) : InSt w wy gN gD gU gS g0 n NL DL UL SN MB v9 LS va ms :=
  { h with need := owns_below h.need hb, defd := owns_below h.defd hb, dbl := owns_below h.dbl hb, seen := owns_below h.seen hb, box := blk_below h.box hb, secs := Kd.R_below h.secs hb, mods := Kd.R_below h.mods hb, low := h.low.trans (hb.mono h.low.size) }
theorem InSt.more {w wx : World} {gN gD gU gS g0 n n' : Nat} {NL : List (List UInt8 × Bool)} {DL UL SN : List (List UInt8)} {MB : Array Value} {v9 : Value} {LS : List S54} {va : Value} {ms : List MdD} (h : InSt w wx gN gD gU gS g0 n NL DL UL SN MB v9 LS va ms) (hn : n ≤ n') : InSt w wx gN gD gU gS g0 n' NL DL UL SN MB v9 LS va ms :=
  { h with need := h.need.mono hn, defd := h.defd.mono hn, dbl := h.dbl.mono hn, seen := h.seen.mono hn, len := Nat.le_trans h.len hn }
theorem inj_ne {a b : Nat} (h : a ≠ b) : (some a : Option Nat) ≠ some b := fun e => h (by injection e)
theorem InSt.needs {w wx : World} {gN gD gU gS g0 n : Nat} {NL : List (List UInt8 × Bool)} {DL UL SN : List (List UInt8)} {MB : Array Value} {v9 : Value} {LS : List S54} {va : Value} {ms : List MdD} (h : InSt w wx gN gD gU gS g0 n NL DL UL SN MB v9 LS va ms) (s : ByteArray) (hs : s.size ≤ maxLen) (hn : n < maxLen) (v q : Bool) (hv : v = (valOf s.data.toList NL || q)) :
    ∃ W3, (Instr.mapUpdate 25 (.map (some gN)) (.string s) (.bool v)).run Tryz.prog wx = .ok () W3 ∧ InSt w W3 gN gD gU gS g0 (n + 1) ((s.data.toList, q) :: NL) DL UL SN MB v9 LS va ms ∧ wx.grownBy W3 (some gN) := by
  obtain ⟨W3, hr, ho, hg⟩ := need_upd h.need s hs hn v q hv
  exact ⟨W3, hr, { h with need := ho, defd := (owns_far h.defd hg h.d1.symm).mono (Nat.le_succ n), dbl := (owns_far h.dbl hg h.d2.symm).mono (Nat.le_succ n), seen := (owns_far h.seen hg h.d3.symm).mono (Nat.le_succ n), len := Nat.le_succ_of_le h.len, box := blk_grown h.box hg (inj_ne h.e1), secs := Kd.R_grown h.secs hg (fun k hk => inj_ne hk.1), mods := Kd.R_grown h.mods hg (fun k hk => inj_ne hk.1), low := h.low.grown hg h.low.size (fun b e => by cases e; exact h.f1) }, hg⟩
theorem InSt.defs {w wx : World} {gN gD gU gS g0 n : Nat} {NL : List (List UInt8 × Bool)} {DL UL SN : List (List UInt8)} {MB : Array Value} {v9 : Value} {LS : List S54} {va : Value} {ms : List MdD} (h : InSt w wx gN gD gU gS g0 n NL DL UL SN MB v9 LS va ms) (s : ByteArray) (hs : s.size ≤ maxLen) (hn : n < maxLen) :
    ∃ W3, (Instr.mapUpdate 25 (.map (some gD)) (.string s) (.bool true)).run Tryz.prog wx = .ok () W3 ∧ InSt w W3 gN gD gU gS g0 (n + 1) NL (s.data.toList :: DL) UL SN MB v9 LS va ms ∧ wx.grownBy W3 (some gD) := by
  obtain ⟨W3, hr, ho, hg⟩ := name_upd h.defd s hs hn
  exact ⟨W3, hr, { h with defd := ho, need := (owns_far h.need hg h.d1).mono (Nat.le_succ n), dbl := (owns_far h.dbl hg h.d4.symm).mono (Nat.le_succ n), seen := (owns_far h.seen hg h.d5.symm).mono (Nat.le_succ n), len := Nat.le_succ_of_le h.len, box := blk_grown h.box hg (inj_ne h.e2), secs := Kd.R_grown h.secs hg (fun k hk => inj_ne hk.2.1), mods := Kd.R_grown h.mods hg (fun k hk => inj_ne hk.2.1), low := h.low.grown hg h.low.size (fun b e => by cases e; exact h.f2) }, hg⟩
theorem InSt.seens {w wx : World} {gN gD gU gS g0 n : Nat} {NL : List (List UInt8 × Bool)} {DL UL SN : List (List UInt8)} {MB : Array Value} {v9 : Value} {LS : List S54} {va : Value} {ms : List MdD} (h : InSt w wx gN gD gU gS g0 n NL DL UL SN MB v9 LS va ms) (s : ByteArray) (hs : s.size ≤ maxLen) (hn : n < maxLen) :
    ∃ W3, (Instr.mapUpdate 25 (.map (some gS)) (.string s) (.bool true)).run Tryz.prog wx = .ok () W3 ∧ InSt w W3 gN gD gU gS g0 (n + 1) NL DL UL (s.data.toList :: SN) MB v9 LS va ms ∧ wx.grownBy W3 (some gS) := by
  obtain ⟨W3, hr, ho, hg⟩ := name_upd h.seen s hs hn
  exact ⟨W3, hr, { h with seen := ho, need := (owns_far h.need hg h.d3).mono (Nat.le_succ n), defd := (owns_far h.defd hg h.d5).mono (Nat.le_succ n), dbl := (owns_far h.dbl hg h.d6).mono (Nat.le_succ n), len := Nat.le_succ_of_le h.len, box := blk_grown h.box hg (inj_ne h.e4), secs := Kd.R_grown h.secs hg (fun k hk => inj_ne hk.2.2.2), mods := Kd.R_grown h.mods hg (fun k hk => inj_ne hk.2.2.2), low := h.low.grown hg h.low.size (fun b e => by cases e; exact h.f4) }, hg⟩
theorem InSt.dbls {w wx : World} {gN gD gU gS g0 n : Nat} {NL : List (List UInt8 × Bool)} {DL UL SN : List (List UInt8)} {MB : Array Value} {v9 : Value} {LS : List S54} {va : Value} {ms : List MdD} (h : InSt w wx gN gD gU gS g0 n NL DL UL SN MB v9 LS va ms) (s : ByteArray) (hs : s.size ≤ maxLen) (hn : n < 100000) (x : Int) (hx : x = ((UL.count s.data.toList : Nat) + 1 : Int)) :
    ∃ W3, (Instr.mapUpdate 26 (.map (some gU)) (.string s) (.int .i64 x)).run Tryz.prog wx = .ok () W3 ∧ InSt w W3 gN gD gU gS g0 (n + 1) NL DL (s.data.toList :: UL) SN MB v9 LS va ms ∧ wx.grownBy W3 (some gU) := by
  have hc : UL.count s.data.toList ≤ n := Nat.le_trans List.count_le_length h.len
  obtain ⟨W3, hr, ho, hg⟩ := cnt_upd h.dbl s hs (by unfold maxLen; omega) x hx (by omega)
  exact ⟨W3, hr, { h with dbl := ho, need := (owns_far h.need hg h.d2).mono (Nat.le_succ n), defd := (owns_far h.defd hg h.d4).mono (Nat.le_succ n), seen := (owns_far h.seen hg h.d6.symm).mono (Nat.le_succ n), len := Nat.succ_le_succ h.len, box := blk_grown h.box hg (inj_ne h.e3), secs := Kd.R_grown h.secs hg (fun k hk => inj_ne hk.2.2.1), mods := Kd.R_grown h.mods hg (fun k hk => inj_ne hk.2.2.1), low := h.low.grown hg h.low.size (fun b e => by cases e; exact h.f3) }, hg⟩
end Go.Proofs.YtkbamfiokhmpjaaGreatDoor

/- NmMissing's outer round: a plan out of the row, its model, the row of models. -/
namespace Go.Proofs.YtkbamfiokhmpjaaGreatDoor
set_option linter.unusedVariables false
set_option linter.unusedSimpArgs false
open Go.RowKit Go.Proofs.YtkbamfiokhmpjaaGreatDoorX.Kd Go.Proofs.YtkbamfiokhmpjaaGreatDoorW.PrintWords Go.Proofs.YtkbamfiokhmpjaaGreatDoorW.PrintLast Go.Proofs.YtkbamfiokhmpjaaGreatDoorW.PrintMore

theorem kMod_mkM (w : World) (base : Nat) (ok : Nat → Prop) (x : MdD) {v9 v10 : Value} (h9 : Kd.R k80 80 w base ok v9 x.L) (h10 : Kd.R k83 83 w base ok v10 x.D) : kMod.M w base ok x [.bool x.big, .bool x.wide, .int .u8 x.abi, .int .u8 x.ver, .string x.pad, .int .u64 x.ty, .int .u64 x.mc, .int .u64 x.en, .int .u64 x.fg, .int .u64 x.nm, v9, v10] :=
  ⟨[.bool x.big], [.bool x.wide, .int .u8 x.abi, .int .u8 x.ver, .string x.pad, .int .u64 x.ty, .int .u64 x.mc, .int .u64 x.en, .int .u64 x.fg, .int .u64 x.nm, v9, v10], rfl, rfl, ⟨[.bool x.wide], [.int .u8 x.abi, .int .u8 x.ver, .string x.pad, .int .u64 x.ty, .int .u64 x.mc, .int .u64 x.en, .int .u64 x.fg, .int .u64 x.nm, v9, v10], rfl, rfl, ⟨[.int .u8 x.abi], [.int .u8 x.ver, .string x.pad, .int .u64 x.ty, .int .u64 x.mc, .int .u64 x.en, .int .u64 x.fg, .int .u64 x.nm, v9, v10], rfl, rfl, ⟨[.int .u8 x.ver], [.string x.pad, .int .u64 x.ty, .int .u64 x.mc, .int .u64 x.en, .int .u64 x.fg, .int .u64 x.nm, v9, v10], rfl, rfl, ⟨[.string x.pad], [.int .u64 x.ty, .int .u64 x.mc, .int .u64 x.en, .int .u64 x.fg, .int .u64 x.nm, v9, v10], rfl, rfl, ⟨[.int .u64 x.ty], [.int .u64 x.mc, .int .u64 x.en, .int .u64 x.fg, .int .u64 x.nm, v9, v10], rfl, rfl, ⟨[.int .u64 x.mc], [.int .u64 x.en, .int .u64 x.fg, .int .u64 x.nm, v9, v10], rfl, rfl, ⟨[.int .u64 x.en], [.int .u64 x.fg, .int .u64 x.nm, v9, v10], rfl, rfl, ⟨[.int .u64 x.fg], [.int .u64 x.nm, v9, v10], rfl, rfl, ⟨[.int .u64 x.nm], [v9, v10], rfl, rfl, ⟨[v9], [v10], rfl, ⟨v9, rfl, h9⟩, ⟨v10, rfl, h10⟩⟩⟩⟩⟩⟩⟩⟩⟩⟩⟩⟩
instance : Inhabited S38 := ⟨⟨0, [], [], [], []⟩⟩
theorem at_Plan {w : World} {A : Option Addr} {n : Nat} {zs : List S38} (h : Kd.C k38 w A n zs) (k : Nat) (h1 : k < zs.length) (hn : k < n) : ∃ ad A1 c1 A2 c2 A3 c3 A4 c4, A = some ad ∧ w.cell? (ad.add (k * 5)) = some (.int .i64 zs[k].f0) ∧ w.cell? ⟨(ad.add (k * 5)).block, (ad.add (k * 5)).off + 1, none⟩ = some (.slice A1 zs[k].f1.length c1) ∧ w.cell? ⟨(ad.add (k * 5)).block, (ad.add (k * 5)).off + 2, none⟩ = some (.slice A2 zs[k].f2.length c2) ∧ w.cell? ⟨(ad.add (k * 5)).block, (ad.add (k * 5)).off + 3, none⟩ = some (.slice A3 zs[k].f3.length c3) ∧ w.cell? ⟨(ad.add (k * 5)).block, (ad.add (k * 5)).off + 4, none⟩ = some (.slice A4 zs[k].f4.length c4) ∧
    Kd.C k60 w A1 zs[k].f1.length zs[k].f1 ∧ Kd.C k62 w A2 zs[k].f2.length zs[k].f2 ∧ Kd.C k72 w A3 zs[k].f3.length zs[k].f3 ∧ Kd.C Kd.string w A4 zs[k].f4.length zs[k].f4 := by
  obtain ⟨ad, c, e, _, hK, hc0⟩ := Kd.C_get h (default : S38) (k : Int) (by omega) (by omega)
  rw [Int.toNat_natCast] at hc0 hK
  have hd : zs.getD k default = zs[k] := by simp [List.getD, h1]
  rw [hd] at hK
  have hc : ∀ j u, c[j]? = some u → w.cell? (ad.add (k * 5 + j)) = some u := hc0
  obtain ⟨A1, c1, A2, c2, A3, c3, A4, c4, rfl, g1, g2, g3, g4⟩ := k38_open hK
  exact ⟨ad, A1, c1, A2, c2, A3, c3, A4, c4, e, hc 0 _ rfl, by rw [← add_field _ _ 1 (by omega)]; exact hc 1 _ rfl, by rw [← add_field _ _ 2 (by omega)]; exact hc 2 _ rfl, by rw [← add_field _ _ 3 (by omega)]; exact hc 3 _ rfl, by rw [← add_field _ _ 4 (by omega)]; exact hc 4 _ rfl, g1, g2, g3, g4⟩
/-- A plan's model, its rows still to be had. -/
theorem made_b (z : S38) (hz : okP z) (a01 a02 a03 a04 : Option Addr) (c01 c02 c03 c04 : Nat) (w : World) (h1 : Kd.C k60 w a01 z.f1.length z.f1) (h2 : Kd.C k62 w a02 z.f2.length z.f2) (h3 : Kd.C k72 w a03 z.f3.length z.f3) (h4 : Kd.C Kd.string w a04 z.f4.length z.f4) :
    Calls Tryz.prog 5 #[.agg #[.int .i64 z.f0, .slice a01 z.f1.length c01, .slice a02 z.f2.length c02, .slice a03 z.f3.length c03, .slice a04 z.f4.length c04]] w fun e w' => ∃ A9 c9 A10 c10, e = .returned (.agg #[.bool (flagB z.f0 2), .bool (flagB z.f0 1), .int .u8 3, .int .u8 0, .int .u64 1, .int .u64 243, .int .u64 16, .int .u64 5, .int .u64 1, .slice A9 (madeSecs z.f0 z.f1 z.f2 z.f3).length c9, .slice A10 (segsR z.f4).length c10]) ∧ Kd.R k54 54 w' w.heap.size (fun _ => True) (.slice A9 (madeSecs z.f0 z.f1 z.f2 z.f3).length c9) (madeSecs z.f0 z.f1 z.f2 z.f3) ∧ Kd.C k76 w' A10 (segsR z.f4).length (segsR z.f4) ∧ Below w.heap.size w w' := by
  refine (made_any z.f0 z.f1 z.f2 z.f3 z.f4 hz.1 hz.2 a01 a02 a03 a04 c01 c02 c03 c04 w h1 h2 h3 h4).mono ?_
  rintro e w' ⟨v9, v10, rfl, hR, hD, hB⟩
  obtain ⟨A9, c9, rfl⟩ := Kd.R_slice hR
  obtain ⟨A10, c10, rfl, _, hC10⟩ := Kd.R_reads hD
  exact ⟨A9, c9, A10, c10, rfl, hR, hC10, hB⟩
theorem told_b (z : S38) (A9 A10 : Option Addr) (c9 c10 : Nat) (w : World) (h1 : Kd.C k54 w A9 (madeSecs z.f0 z.f1 z.f2 z.f3).length (madeSecs z.f0 z.f1 z.f2 z.f3)) (h2 : Kd.C k76 w A10 (segsR z.f4).length (segsR z.f4)) :
    Calls Tryz.prog 6 #[.agg #[.bool (flagB z.f0 2), .bool (flagB z.f0 1), .int .u8 3, .int .u8 0, .int .u64 1, .int .u64 243, .int .u64 16, .int .u64 5, .int .u64 1, .slice A9 (madeSecs z.f0 z.f1 z.f2 z.f3).length c9, .slice A10 (segsR z.f4).length c10]] w fun e w' => ∃ v9 v10, e = .returned (.agg #[.bool (flagB z.f0 1), .bool (flagB z.f0 2), .int .u8 3, .int .u8 0, .string ⟨#[]⟩, .int .u64 1, .int .u64 243, .int .u64 16, .int .u64 5, .int .u64 1, v9, v10]) ∧ Kd.R k80 80 w' w.heap.size (fun _ => True) v9 (PM z).L ∧ Kd.R k83 83 w' w.heap.size (fun _ => True) v10 (PM z).D ∧ Below w.heap.size w w' := by
  have hl := madeSecs_len z.f0 z.f1 z.f2 z.f3
  have hs := segsR_le z.f4
  refine (told_any (flagB z.f0 2) (flagB z.f0 1) 3 0 1 243 16 5 1 (madeSecs z.f0 z.f1 z.f2 z.f3) (segsR z.f4) (by omega) (by omega) (fun x hx => by have := madeSecs_in z.f0 z.f1 z.f2 z.f3 x hx; omega) A9 A10 c9 c10 w h1 h2).mono ?_
  rintro e w' ⟨v9, v10, rfl, hR, hD, hB⟩
  exact ⟨v9, v10, rfl, hR, hD, hB⟩
theorem infoMod : (Tryz.prog.info? 48).map (fun i => (i.zero, i.size, i.bytes)) = some (some (.agg #[.bool false, .bool false, .int .u8 0, .int .u8 0, .string ⟨#[]⟩, .int .u64 0, .int .u64 0, .int .u64 0, .int .u64 0, .int .u64 0, .slice none 0 0, .slice none 0 0]), 12, 112) := by kernel_rfl
end Go.Proofs.YtkbamfiokhmpjaaGreatDoor

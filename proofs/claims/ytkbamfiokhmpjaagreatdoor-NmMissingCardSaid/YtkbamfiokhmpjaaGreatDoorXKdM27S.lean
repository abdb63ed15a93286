/- Plain laws: insertion sort is stable. -/
import Derived.Sort.LotA
import Derived.Test.YtkbamfiokhmpjaaGreatDoorBridge
import Derived.Lib.OwnBridge
import Derived.Shelf.SlSortCmp.InsertionK
import Derived.Test.YtkbamfiokhmpjaaGreatDoorProg
import Derived.Sort.Walk0
import Derived.Laws.Cover1
import Derived.Test.YtkbamfiokhmpjaaGreatDoorLayS
import Derived.OwnWalk
namespace Go.Proofs.YtkbamfiokhmpjaaGreatDoor
set_option linter.unusedVariables false
set_option linter.unusedSimpArgs false
open Go.Sort

section
variable {α : Type} [Inhabited α]
/-- Where insertion sort's inner loop stands: the element is at j; the others of the first i + 1 places come from the first i ones; what is behind stands. -/
def InsAt (d0 dk : Array α) (i j : Nat) : Prop :=
  dk.size = d0.size ∧ dk[j]! = d0[i]! ∧ (∀ p, p ≤ i → p ≠ j → ∃ q, q < i ∧ dk[p]! = d0[q]!) ∧ ∀ p, i < p → dk[p]! = d0[p]!
theorem inner_alike (lt lt' : α → α → Bool) (d0 : Array α) (i : Nat) (hi : i < d0.size) (h : ∀ q, q < i → lt d0[i]! d0[q]! = lt' d0[i]! d0[q]!) : ∀ (j : Nat) (dk : Array α), j ≤ i → InsAt d0 dk i j →
    insInner lt 0 j dk = insInner lt' 0 j dk ∧ (insInner lt 0 j dk).size = d0.size ∧ (∀ p, p ≤ i → ∃ q, q ≤ i ∧ (insInner lt 0 j dk)[p]! = d0[q]!) ∧ ∀ p, i < p → (insInner lt 0 j dk)[p]! = d0[p]! := by
  intro j
  induction j with
  | zero =>
    intro dk hj hI
    refine ⟨rfl, hI.1, fun p hp => ?_, hI.2.2.2⟩
    by_cases h0 : p = 0
    · subst h0; exact ⟨i, Nat.le_refl _, hI.2.1⟩
    · obtain ⟨q, hq, e⟩ := hI.2.2.1 p hp h0
      exact ⟨q, Nat.le_of_lt hq, e⟩
  | succ j ih =>
    intro dk hj hI
    obtain ⟨q, hq, e⟩ := hI.2.2.1 j (by omega) (by omega)
    have hc : lt dk[j + 1]! dk[j]! = lt' dk[j + 1]! dk[j]! := by rw [hI.2.1, e]; exact h q hq
    have hsz := hI.1
    by_cases hl : lt dk[j + 1]! dk[j]! = true
    · have hl' : lt' dk[j + 1]! dk[j]! = true := hc ▸ hl
      have e1 : insInner lt 0 (j + 1) dk = insInner lt 0 j (swp dk (j + 1) j) := by rw [insInner]; simp [hl]
      have e2 : insInner lt' 0 (j + 1) dk = insInner lt' 0 j (swp dk (j + 1) j) := by rw [insInner]; simp [hl']
      rw [e1, e2]
      refine ih (swp dk (j + 1) j) (by omega) ⟨?_, ?_, fun p hp hpj => ?_, fun p hp => ?_⟩
      · rw [size_swp]; exact hsz
      · rw [swp_right _ _ _ (by omega)]; exact hI.2.1
      · by_cases hp1 : p = j + 1
        · subst hp1
          rw [swp_left _ _ _ (by omega) (by omega)]
          exact ⟨q, hq, e⟩
        · rw [swp_other _ _ _ _ hp1 hpj]
          exact hI.2.2.1 p hp hp1
      · rw [swp_other _ _ _ _ (by omega) (by omega)]
        exact hI.2.2.2 p hp
    · have hl1 : lt dk[j + 1]! dk[j]! = false := Bool.eq_false_iff.2 hl
      have hl' : lt' dk[j + 1]! dk[j]! = false := hc ▸ hl1
      have e1 : insInner lt 0 (j + 1) dk = dk := by rw [insInner]; simp [hl1]
      have e2 : insInner lt' 0 (j + 1) dk = dk := by rw [insInner]; simp [hl']
      rw [e1, e2]
      refine ⟨rfl, hsz, fun p hp => ?_, hI.2.2.2⟩
      by_cases h0 : p = j + 1
      · subst h0; exact ⟨i, Nat.le_refl _, hI.2.1⟩
      · obtain ⟨q, hq, e⟩ := hI.2.2.1 p hp h0
        exact ⟨q, Nat.le_of_lt hq, e⟩
theorem out_go (lt : α → α → Bool) (b i : Nat) (d : Array α) (h : i < b) : insOuter lt 0 b i d = insOuter lt 0 b (i + 1) (insInner lt 0 i d) := by rw [insOuter, if_pos h]
theorem out_stop (lt : α → α → Bool) (b i : Nat) (d : Array α) (h : ¬ i < b) : insOuter lt 0 b i d = d := by rw [insOuter, if_neg h]
/-- The first i places hold what the first i places held. -/
theorem outer_alike (lt lt' : α → α → Bool) (d0 : Array α) (h : ∀ p q, q < p → p < d0.size → lt d0[p]! d0[q]! = lt' d0[p]! d0[q]!) : ∀ (n i : Nat) (dk : Array α), n = d0.size - i → 0 < i → dk.size = d0.size → (∀ p, p < i → ∃ q, q < i ∧ dk[p]! = d0[q]!) → (∀ p, i ≤ p → dk[p]! = d0[p]!) →
    insOuter lt 0 d0.size i dk = insOuter lt' 0 d0.size i dk := by
  intro n
  induction n with
  | zero =>
    intro i dk hn _ _ _ _
    rw [out_stop lt _ _ _ (by omega), out_stop lt' _ _ _ (by omega)]
  | succ n ih =>
    intro i dk hn h0 hsz hA hB
    have hi : i < d0.size := by omega
    obtain ⟨e, hs, hA2, hB2⟩ := inner_alike lt lt' d0 i hi (fun q hq => h i q hq hi) i dk (Nat.le_refl _) ⟨hsz, hB i (Nat.le_refl _), fun p hp hpi => hA p (by omega), fun p hp => hB p (by omega)⟩
    rw [out_go lt _ _ _ hi, out_go lt' _ _ _ hi, ← e]
    exact ih (i + 1) _ (by omega) (by omega) hs (fun p hp => by
      obtain ⟨q, hq, e⟩ := hA2 p (by omega)
      exact ⟨q, by omega, e⟩) (fun p hp => hB2 p (by omega))
/-- Insertion sort asks nothing but whether a later one is less than an earlier one. -/
theorem insertionSort_alike (lt lt' : α → α → Bool) (d : Array α) (h : ∀ p q, q < p → p < d.size → lt d[p]! d[q]! = lt' d[p]! d[q]!) : insertionSort lt d 0 d.size = insertionSort lt' d 0 d.size :=
  outer_alike lt lt' d h (d.size - 1) 1 d rfl (by omega) rfl (fun p hp => ⟨0, by omega, by rw [show p = 0 by omega]⟩) (fun _ _ => rfl)
/-- Less, or neither is less and the tag is. -/
def tagLt {α : Type} (lt : α → α → Bool) (tag : α → Nat) (x y : α) : Bool := lt x y || (!lt y x && decide (tag x < tag y))
theorem tagLt_swo {α : Type} {lt : α → α → Bool} (hS : SWO lt) (tag : α → Nat) : SWO (tagLt lt tag) where
  irrefl := fun x => by simp [tagLt, hS.irrefl x]
  trans := fun x y z h1 h2 => by
    simp only [tagLt, Bool.or_eq_true, Bool.and_eq_true, Bool.not_eq_true', decide_eq_true_eq] at h1 h2 ⊢
    rcases h1 with h1 | ⟨h1, t1⟩ <;> rcases h2 with h2 | ⟨h2, t2⟩
    · exact .inl (hS.trans _ _ _ h1 h2)
    · left
      cases hxz : lt x z with
      | true => rfl
      | false => exact absurd h1 (by rw [hS.ntrans x z y hxz h2]; decide)
    · left
      cases hxz : lt x z with
      | true => rfl
      | false => exact absurd h2 (by rw [hS.ntrans y x z h1 hxz]; decide)
    · exact .inr ⟨hS.ntrans z y x h2 h1, Nat.lt_trans t1 t2⟩
  ntrans := fun x y z h1 h2 => by
    simp only [tagLt, Bool.or_eq_false_iff, Bool.and_eq_false_iff, Bool.not_eq_false', decide_eq_false_iff_not] at h1 h2 ⊢
    refine ⟨hS.ntrans _ _ _ h1.1 h2.1, ?_⟩
    rcases h1.2 with h3 | h3
    · left
      cases hzx : lt z x with
      | true => rfl
      | false => exact absurd h3 (by rw [hS.ntrans y z x h2.1 hzx]; decide)
    · rcases h2.2 with h4 | h4
      · left
        cases hzx : lt z x with
        | true => rfl
        | false => exact absurd h4 (by rw [hS.ntrans z x y hzx h1.1]; decide)
      · exact .inr (by omega)
/-- Insertion sort leaves equals as they stood: with tags that rise, the row is sorted by the tag, too. -/
theorem insertionSort_stable {lt : α → α → Bool} (hS : SWO lt) (tag : α → Nat) (d : Array α) (ht : ∀ p q, q < p → p < d.size → tag d[q]! < tag d[p]!) :
    PermIn 0 d.size d (insertionSort lt d 0 d.size) ∧ SortedIn (tagLt lt tag) 0 d.size (insertionSort lt d 0 d.size) := by
  rw [insertionSort_alike lt (tagLt lt tag) d (fun p q hq hp => by
    have := ht p q hq hp
    simp only [tagLt]
    rw [show decide (tag d[p]! < tag d[q]!) = false from decide_eq_false (by omega), Bool.and_false, Bool.or_false])]
  exact insertionSort_holds (tagLt_swo hS tag) d 0 d.size (Nat.zero_le _) (Nat.le_refl _)
end
end Go.Proofs.YtkbamfiokhmpjaaGreatDoor

/- A row of structs and the sort's words. -/
namespace Go.Proofs.YtkbamfiokhmpjaaGreatDoor
set_option linter.unusedVariables false
set_option linter.unusedSimpArgs false
open Go.RowKit Go.Sort Go.Proofs Go.Proofs.YtkbamfiokhmpjaaGreatDoorW.PrintWords

theorem flat_at {α : Type} (en : α → List Value) (k : Nat) (hk : ∀ x, (en x).length = k) : ∀ (xs : List α) (t : Nat) (h : t < xs.length * k), (xs.flatMap en)[t]? = (en (xs[t / k]'(Nat.div_lt_of_lt_mul (by rw [Nat.mul_comm]; exact h))))[t % k]?
  | [], t, h => absurd h (by simp)
  | x :: r, t, h => by
    have h0 : 0 < k := by
      rcases Nat.eq_zero_or_pos k with e | e
      · subst e; simp at h
      · exact e
    rw [List.flatMap_cons]
    by_cases ht : t < k
    · rw [List.getElem?_append_left (by rw [hk]; exact ht)]
      have e1 : t / k = 0 := Nat.div_eq_of_lt ht
      have e2 : t % k = t := Nat.mod_eq_of_lt ht
      simp only [e1, e2, List.getElem_cons_zero]
    · rw [List.getElem?_append_right (by rw [hk]; omega), hk]
      have hlt : t - k < r.length * k := by rw [List.length_cons, Nat.succ_mul] at h; omega
      rw [flat_at en k hk r (t - k) hlt]
      have e1 : t / k = (t - k) / k + 1 := by
        rw [← Nat.add_div_right _ h0]; congr 1; omega
      have e2 : t % k = (t - k) % k := (Nat.mod_eq_sub_mod (by omega))
      simp only [e1, e2, List.getElem_cons_succ]
theorem flat_len {α : Type} (en : α → List Value) (k : Nat) (hk : ∀ x, (en x).length = k) : ∀ xs : List α, (xs.flatMap en).length = xs.length * k
  | [] => by simp
  | x :: r => by rw [List.flatMap_cons, List.length_append, hk, flat_len en k hk r, List.length_cons, Nat.succ_mul, Nat.add_comm]
theorem flatK_toArray {α : Type} [Inhabited α] (en : α → List Value) (k : Nat) (hk : ∀ x, (en x).length = k) (xs : List α) : flatK en k xs.toArray = (xs.flatMap en).toArray := by
  have hlen := flat_len en k hk xs
  apply Array.ext
  · rw [size_flatK]; simp [hlen]
  · intro t h1 h2
    have ht : t < xs.length * k := by rw [size_flatK] at h1; simpa using h1
    have h0 : 0 < k := by
      rcases Nat.eq_zero_or_pos k with e | e
      · subst e; simp at ht
      · exact e
    have hq : t / k < xs.length := Nat.div_lt_of_lt_mul (by rw [Nat.mul_comm]; exact ht)
    have hm : t % k < (en xs[t / k]).length := by rw [hk]; exact Nat.mod_lt _ h0
    have e1 : (flatK en k xs.toArray)[t]! = (flatK en k xs.toArray)[t] := getElem!_pos (flatK en k xs.toArray) t h1
    have e2 := get_flatK en k xs.toArray t (by simpa using ht)
    rw [← e1, e2]
    have e3 := flat_at en k hk xs t ht
    rw [List.getElem?_eq_getElem (by rw [hlen]; exact ht), List.getElem?_eq_getElem hm] at e3
    injection e3 with e3
    simp only [List.getElem_toArray]
    rw [e3]
    have e4 : xs.toArray[t / k]! = xs[t / k] := by simp [getElem!_pos, hq]
    rw [e4]
    exact getElem!_pos (en xs[t / k]) (t % k) hm
theorem R_flat {α : Type} {d : Kd α} (en : α → List Value) (hk : ∀ x, (en x).length = d.sz) (hO : ∀ w base ok x cs, d.M w base ok x cs → cs = en x) {e : Nat} {w : World} {base : Nat} {ok : Nat → Prop} {v : Value} {xs : List α} (h : d.R e w base ok v xs) : w.ownsRow base e d.sz v xs.length (xs.flatMap en) := by
  obtain ⟨_, inner, ho, hr⟩ := h
  have hflat : ∀ (ys : List α) (cs : List Value), Reps (fun x c => c = en x) d.sz ys cs → cs = ys.flatMap en := by
    intro ys
    induction ys with
    | nil => intro cs hc; have := hc.1; exact List.eq_nil_of_length_eq_zero (by simpa using this)
    | cons y r ih =>
      intro cs hc
      have h0 := hc.2 0 y rfl
      rw [Nat.zero_mul, List.drop_zero] at h0
      have hl : cs.length = (r.length + 1) * d.sz := by simpa using hc.1
      have h1 : Reps (fun x c => c = en x) d.sz r (cs.drop d.sz) := by
        refine ⟨by rw [List.length_drop, hl, Nat.succ_mul]; omega, fun j p hj => ?_⟩
        have := hc.2 (j + 1) p (by simpa using hj)
        rw [List.drop_drop]
        rw [Nat.succ_mul] at this
        rw [Nat.add_comm]
        exact this
      rw [List.flatMap_cons, ← ih _ h1, ← h0, List.take_append_drop]
  have hi := hflat xs inner (hr.imp_ (fun x c hc => hO _ _ _ _ _ hc))
  rw [hi] at ho
  exact ho
section
variable {w : World} {base e sz g n cap : Nat} {inner inner' : List Value}
theorem holds_own (h : w.ownsRow base e sz (.slice (some ⟨g, 0, none⟩) n cap) n inner) : base ≤ g ∧ g < w.heap.size ∧ Holds id w g 0 inner.toArray := by
  rcases h.2 with ⟨e0, _⟩ | ⟨g', cap', cur, e0, hb, hg, hn, hm, hs, ht⟩
  · cases e0
  · injection e0 with e1 _ e3
    injection e1 with e1
    injection e1 with e1
    subst e1; subst e3
    have hlt : g < w.heap.size := blk_lt hg
    refine ⟨hb, hlt, fun j hj => ⟨?_, by simp [World.frozen?, hg]⟩⟩
    have hj' : j < n * sz := by have := h.1; simp at hj; omega
    have e1 : (cur.toList.take (n * sz))[j]? = inner[j]? := by rw [ht]
    rw [List.getElem?_take, if_pos hj', Array.getElem?_toList, List.getElem?_eq_getElem (by simpa using hj)] at e1
    simp only [World.cell?, hg, Nat.zero_add]
    simp only [Option.isSome_none, Bool.false_eq_true, if_false]
    rw [e1]
    have hjl : j < inner.length := by simpa using hj
    simp [getElem!_pos, hjl]
theorem own_put (h : w.ownsRow base e sz (.slice (some ⟨g, 0, none⟩) n cap) n inner) (hy : inner'.length = inner.length) (q : Nat) (os : Array Obj) : (grow (putRow id (Sort.ahead w q) g 0 inner'.toArray) os).ownsRow base e sz (.slice (some ⟨g, 0, none⟩) n cap) n inner' := by
  rcases h.2 with ⟨e0, _⟩ | ⟨g', cap', cur, e0, hb, hg, hn, hm, hs, ht⟩
  · cases e0
  · injection e0 with e1 _ e3
    injection e1 with e1
    injection e1 with e1
    subst e1; subst e3
    have hlt : g < w.heap.size := blk_lt hg
    refine ⟨by rw [hy]; exact h.1, .inr ⟨g, cap, putCells id 0 inner'.toArray cur, rfl, hb, ?_, hn, hm, by simpa [putCells] using hs, ?_⟩⟩
    · have h1 : (putRow id (Sort.ahead w q) g 0 inner'.toArray).heap[g]? = some (.cells (putCells id 0 inner'.toArray cur) e (0, 0)) := by
        simp [putRow, mapBlock, Sort.ahead, Array.getElem?_modify, hg, onCells]
      show ((putRow id (Sort.ahead w q) g 0 inner'.toArray).heap ++ os)[g]? = _
      rw [Array.getElem?_append_left (blk_lt h1)]
      exact h1
    · have hl := h.1
      apply List.ext_getElem?
      intro j
      rw [List.getElem?_take, Array.getElem?_toList]
      by_cases hj : j < n * sz
      · have hcs : n * sz ≤ cap * sz := Nat.mul_le_mul_right _ hn
        have hjc : j < cur.size := by omega
        have hji : j < inner'.length := by omega
        simp only [if_pos hj, putCells, Array.getElem?_mapIdx, Array.getElem?_eq_getElem hjc, Option.map_some]
        rw [if_pos (by simp; omega), List.getElem?_eq_getElem hji]
        simp [getElem!_pos, hji]
      · rw [if_neg hj, List.getElem?_eq_none (by omega)]
theorem grown_put (w : World) (g q : Nat) (F : Array Value) (os : Array Obj) : w.grownBy (grow (putRow id (Sort.ahead w q) g 0 F) os) (some g) := by
  have hs : (putRow id (Sort.ahead w q) g 0 F).heap.size = w.heap.size := by simp [putRow, mapBlock, Sort.ahead]
  refine ⟨rfl, rfl, rfl, by rw [size_grow, hs]; exact Nat.le_add_right _ _, fun i hi hne => ?_⟩
  have hgi : g ≠ i := fun e => hne (by rw [e])
  show ((putRow id (Sort.ahead w q) g 0 F).heap ++ os)[i]? = _
  rw [Array.getElem?_append_left (by rw [hs]; exact hi)]
  simp [putRow, mapBlock, Sort.ahead, Array.getElem?_modify, hgi]
end
end Go.Proofs.YtkbamfiokhmpjaaGreatDoor

/- Contracts over this translation: cmp.Compare of strings. -/
namespace Go.Proofs.YtkbamfiokhmpjaaGreatDoor
set_option linter.unusedVariables false
set_option linter.unusedSimpArgs false
open Go.RowKit Go.Sort

/-- Go's order of texts. -/
def cmpB (a b : ByteArray) : Int := if Op.bytesLess a.toList b.toList = true then -1 else if (a.toList == b.toList) = true then 0 else 1
theorem cmpB_lt (a b : ByteArray) : decide (cmpB a b < 0) = Op.bytesLess a.toList b.toList := by
  unfold cmpB
  split
  · rename_i h; rw [h]; rfl
  · rename_i h
    rw [Bool.eq_false_iff.2 h]
    split <;> rfl
theorem cmpB_swo {α : Type} (f : α → ByteArray) : SWO (fun x y : α => decide (cmpB (f x) (f y) < 0)) where
  irrefl := fun x => by rw [cmpB_lt, Go.Proofs.bytesLess_eq]; simp
  trans := fun x y z h1 h2 => by
    rw [cmpB_lt, Go.Proofs.bytesLess_eq] at h1 h2 ⊢
    simp only [decide_eq_true_eq] at h1 h2 ⊢
    exact List.lt_trans h1 h2
  ntrans := fun x y z h1 h2 => by
    rw [cmpB_lt, Go.Proofs.bytesLess_eq] at h1 h2 ⊢
    simp only [decide_eq_false_iff_not] at h1 h2 ⊢
    exact fun h => h1 (Std.lt_of_lt_of_le h (Std.not_lt.1 h2))
set_option maxRecDepth 100000 in
theorem isNaN_any (a : ByteArray) (w : World) : Calls Tryz.prog 52 #[.string a] w fun e w' => e = .returned (.bool false) ∧ w' = w := by
  have haa : (a.toList == a.toList) = true := beq_self_eq_true _
  go_enter Tryz.func52, Tryz.ntmps52
  go_wp2
  go_ret
  exact ⟨rfl, rfl⟩
set_option maxRecDepth 100000 in
theorem compare_any (a b : ByteArray) (w : World) : Calls Tryz.prog 36 #[.string a, .string b] w fun e w' => e = .returned (.int .i64 (cmpB a b)) ∧ w' = w := by
  have haa : (a.toList == a.toList) = true := beq_self_eq_true _
  have hbb : (b.toList == b.toList) = true := beq_self_eq_true _
  obtain ⟨t1, h1⟩ : ∃ t1, Op.bytesLess a.toList b.toList = t1 := ⟨_, rfl⟩
  obtain ⟨t2, h2⟩ : ∃ t2, (a.toList == b.toList) = t2 := ⟨_, rfl⟩
  have hc : cmpB a b = if t1 = true then -1 else if t2 = true then 0 else 1 := by unfold cmpB; rw [h1, h2]
  have HC := Lib.hid hc
  clear hc
  go_enter Tryz.func36, Tryz.ntmps36
  cases t1
  · cases t2
    · go_wp2_with (first | (go_at_call 52; refine (isNaN_any _ _).mono ?_; rintro e w1 ⟨rfl, rfl⟩))
      go_ret
      exact ⟨by rw [HC.out]; rfl, rfl⟩
    · go_wp2_with (first | (go_at_call 52; refine (isNaN_any _ _).mono ?_; rintro e w1 ⟨rfl, rfl⟩))
      go_ret
      exact ⟨by rw [HC.out]; rfl, rfl⟩
  · go_wp2_with (first | (go_at_call 52; refine (isNaN_any _ _).mono ?_; rintro e w1 ⟨rfl, rfl⟩))
    go_ret
    exact ⟨by rw [HC.out]; rfl, rfl⟩
end Go.Proofs.YtkbamfiokhmpjaaGreatDoor

/- Contracts over this translation: nm's rows sorted by name, the same ones as they stood. -/
namespace Go.Proofs.YtkbamfiokhmpjaaGreatDoorX.Kd
open Go.RowKit Go.Proofs.YtkbamfiokhmpjaaGreatDoor Go.Proofs.YtkbamfiokhmpjaaGreatDoorW.PrintWords
structure S95 where
  f0 : Int
  f1 : Int
  f2 : ByteArray
  f3 : ByteArray
  f4 : Int
  deriving Inhabited
def k95 : Kd S95 := Kd.iso (Kd.pair (Kd.int .u64) (Kd.pair (Kd.int .u64) (Kd.pair Kd.string (Kd.pair Kd.string (Kd.int .i64))))) (fun x : S95 => (x.f0, x.f1, x.f2, x.f3, x.f4))
def enRow (x : S95) : List Value := [.int .u64 x.f0, .int .u64 x.f1, .string x.f2, .string x.f3, .int .i64 x.f4]
theorem k95_openM {w : World} {base : Nat} {ok : Nat → Prop} {x : S95} {cs : List Value} (h : k95.M w base ok x cs) : cs = enRow x := by
  obtain ⟨_, _, rfl, rfl, ⟨_, _, rfl, rfl, ⟨_, _, rfl, rfl, ⟨_, _, rfl, rfl, rfl⟩⟩⟩⟩ := h
  rfl
theorem k95_open {w : World} {x : S95} {cs : List Value} (h : k95.K w x cs) : cs = enRow x := by
  obtain ⟨_, _, rfl, rfl, ⟨_, _, rfl, rfl, ⟨_, _, rfl, rfl, ⟨_, _, rfl, rfl, rfl⟩⟩⟩⟩ := h
  rfl
theorem k95_mkM (w : World) (base : Nat) (ok : Nat → Prop) (x : S95) : k95.M w base ok x (enRow x) := ⟨[.int .u64 x.f0], [.int .u64 x.f1, .string x.f2, .string x.f3, .int .i64 x.f4], rfl, rfl, ⟨[.int .u64 x.f1], [.string x.f2, .string x.f3, .int .i64 x.f4], rfl, rfl, ⟨[.string x.f2], [.string x.f3, .int .i64 x.f4], rfl, rfl, ⟨[.string x.f3], [.int .i64 x.f4], rfl, rfl, rfl⟩⟩⟩⟩
end Go.Proofs.YtkbamfiokhmpjaaGreatDoorX.Kd
namespace Go.Proofs.YtkbamfiokhmpjaaGreatDoor
set_option linter.unusedVariables false
set_option linter.unusedSimpArgs false
open Go.RowKit Go.Sort Go.Proofs Go.Proofs.YtkbamfiokhmpjaaGreatDoorX.Kd Go.Proofs.YtkbamfiokhmpjaaGreatDoorW.PrintWords Go.Proofs.YtkbamfiokhmpjaaGreatDoorW.PrintLast Go.Proofs.YtkbamfiokhmpjaaGreatDoorW.PrintMore

set_option maxRecDepth 100000 in
theorem rowCmp_any (x y : S95) (W : World) : Calls Tryz.prog 35 #[.agg #[.int .u64 x.f0, .int .u64 x.f1, .string x.f2, .string x.f3, .int .i64 x.f4], .agg #[.int .u64 y.f0, .int .u64 y.f1, .string y.f2, .string y.f3, .int .i64 y.f4]] W fun e w' => e = .returned (.int .i64 (cmpB x.f3 y.f3)) ∧ ∃ q os', w' = grow (W.drewN q) os' := by
  have HC := Lib.hid (fun V => compare_any x.f3 y.f3 V)
  obtain ⟨r, hr⟩ : ∃ r, r = cmpB x.f3 y.f3 := ⟨_, rfl⟩
  rw [← hr] at HC ⊢
  clear hr
  go_enter Tryz.func35, Tryz.ntmps35
  go_wp2_with (first | (go_at_call 36; refine (HC.out _).mono ?_; rintro e w' ⟨rfl, rfl⟩))
  go_ret
  exact ⟨rfl, 0, _, by rw [alloc_eq_grow, alloc_eq_grow, grow_grow]; rfl⟩
set_option maxRecDepth 100000 in
theorem ins_nil (fv : Value) (w : World) : Calls Tryz.prog 74 #[.slice none 0 0, .int .i64 0, .int .i64 0, fv] w fun e w' => e = .returned (.tuple #[]) ∧ w' = w := by
  go_enter Tryz.func74, Tryz.ntmps74
  go_wp2
  go_loopw [8] (fun i wr => i = .int .i64 1 ∧ wr = w) (fun _ _ => 0)
  case atStart => exact ⟨rfl, rfl⟩
  case round =>
    obtain ⟨rfl, rfl⟩ := hrel
    go_wp2
    go_end0
    exact ⟨rfl, rfl⟩
/-- By name; the same ones by their tags. -/
def RowLt (x y : S95) : Prop := Op.bytesLess x.f3.toList y.f3.toList = true ∨ (Op.bytesLess y.f3.toList x.f3.toList = false ∧ x.f4.toNat ≤ y.f4.toNat)
def rowCf (x y : S95) : Int := cmpB x.f3 y.f3
noncomputable def sortRows (xs : List S95) : List S95 := (Sort.insertionSort (ltOf rowCf) xs.toArray 0 xs.length).toList
theorem sortRows_spec (xs : List S95) (ht : ∀ p q (hq : q < p) (hp : p < xs.length), (xs[q]'(by omega)).f4.toNat < xs[p].f4.toNat) : (sortRows xs).Perm xs ∧ (sortRows xs).Pairwise RowLt := by
  have hS : SWO (ltOf rowCf) := cmpB_swo (fun x : S95 => x.f3)
  obtain ⟨hP, hO⟩ := insertionSort_stable hS (fun x => x.f4.toNat) xs.toArray (fun p q hq hp => by
    have hp' : p < xs.length := by simpa using hp
    have h := ht p q hq hp'
    rw [getElem!_pos xs.toArray p hp, getElem!_pos xs.toArray q (Nat.lt_trans hq hp)]
    simpa using h)
  rw [show xs.toArray.size = xs.length from rfl] at hP hO
  have hD : sortRows xs = (Sort.insertionSort (ltOf rowCf) xs.toArray 0 xs.length).toList := rfl
  obtain ⟨D, hDD⟩ : ∃ D, D = Sort.insertionSort (ltOf rowCf) xs.toArray 0 xs.length := ⟨_, rfl⟩
  rw [← hDD] at hP hO hD
  clear hDD
  have hsz : D.size = xs.length := hP.1
  rw [hD]
  constructor
  · have h := hP.2.2
    have e1 : D.extract 0 xs.length = D := by rw [← hsz, Array.extract_size]
    have e2 : xs.toArray.extract 0 xs.length = xs.toArray := by simp
    rw [e1, e2] at h
    exact h
  · refine List.pairwise_iff_getElem.2 (fun i j hi hj hij => ?_)
    have hi' : i < D.size := by simpa using hi
    have hj' : j < D.size := by simpa using hj
    have h := hO i j (Nat.zero_le _) hij (by omega)
    rw [getElem!_pos D j hj', getElem!_pos D i hi'] at h
    have ei : D.toList[i] = D[i] := Array.getElem_toList ..
    have ej : D.toList[j] = D[j] := Array.getElem_toList ..
    rw [ei, ej]
    obtain ⟨x, hx⟩ : ∃ x, x = D[i] := ⟨_, rfl⟩
    obtain ⟨y, hy⟩ : ∃ y, y = D[j] := ⟨_, rfl⟩
    rw [← hx, ← hy] at h ⊢
    simp only [tagLt, ltOf, rowCf, cmpB_lt, Bool.or_eq_false_iff, Bool.and_eq_false_iff, Bool.not_eq_false', decide_eq_false_iff_not] at h
    rcases h.2 with h2 | h2
    · exact .inl ((cmpB_lt _ _).symm.trans h2)
    · exact .inr ⟨(cmpB_lt _ _).symm.trans h.1, by omega⟩
theorem sortRows_len (xs : List S95) : (sortRows xs).length = xs.length := by
  have hS : SWO (ltOf rowCf) := cmpB_swo (fun x : S95 => x.f3)
  have h := (insertionSort_holds hS xs.toArray 0 xs.length (Nat.zero_le _) (Nat.le_refl _)).1.1
  show (Sort.insertionSort (ltOf rowCf) xs.toArray 0 xs.length).toList.length = _
  rw [Array.length_toList]; simpa using h
set_option maxRecDepth 100000 in
set_option maxHeartbeats 4000000 in
theorem stable_any (xs : List S95) (hn : xs.length < 20) (base : Nat) (v : Value) (w : World) (hR : Kd.R k95 95 w base (fun _ => True) v xs) :
    Calls Tryz.prog 51 #[v, .int .i64 xs.length, .func (.func 35) #[] #[]] w fun e w' => e = .returned (.tuple #[]) ∧ Kd.R k95 95 w' base (fun _ => True) v (sortRows xs) ∧ w.grownBy w' v.ownBlock := by
  have HI : Hid (Calls Tryz.prog 74 #[v, .int .i64 0, .int .i64 xs.length, .func (.func 35) #[] #[]] w fun e w' => e = .returned (.tuple #[]) ∧ Kd.R k95 95 w' base (fun _ => True) v (sortRows xs) ∧ w.grownBy w' v.ownBlock) := Lib.hid (by
    have hown := R_flat enRow (fun _ => rfl) (fun _ _ _ _ _ h => k95_openM h) hR
    rcases hown.2 with ⟨rfl, h0⟩ | ⟨g, cap, cur, rfl, _⟩
    · have hx : xs = [] := List.eq_nil_of_length_eq_zero h0
      subst hx
      refine (ins_nil _ w).mono ?_
      rintro e w' ⟨rfl, rfl⟩
      refine ⟨rfl, ?_, World.grownBy.refl _ _⟩
      have hs : sortRows [] = [] := List.eq_nil_of_length_eq_zero (by rw [sortRows_len]; rfl)
      rw [hs]
      exact hR
    · obtain ⟨hbg, hlt, hH⟩ := holds_own hown
      rw [← flatK_toArray enRow 5 (fun _ => rfl)] at hH
      have eg : ∀ args w, (callFunc 35 args).run Tryz.prog w = .ok (.enter 35 args) w := enters_of Tryz.func35 (by kernel_rfl) rfl
      have hcon := AnyQ.insertionSortCmpFunc Tryz.insRow 5 Tryz.isAgg95 Tryz.sizeOf95 enRow (fun _ => rfl) (fun x u hu => by simp [enRow] at hu; rcases hu with rfl | rfl | rfl | rfl | rfl <;> rfl) rowCf 35 #[] g 0 cap 0 xs.length xs.toArray w eg (fun _ _ _ _ x y => rowCmp_any x y _) hH hlt (Nat.zero_le _) (Nat.le_refl _) (by show xs.length < _; omega)
      refine hcon.mono ?_
      rintro e w' ⟨rfl, n, os, rfl⟩
      have hf : flatK enRow 5 (Sort.insertionSort (ltOf rowCf) xs.toArray 0 xs.length) = ((sortRows xs).flatMap enRow).toArray := by
        rw [← flatK_toArray enRow 5 (fun _ => rfl)]
        rfl
      refine ⟨rfl, ?_, ?_⟩
      · refine R_of_owns enRow (fun _ => rfl) (fun _ _ _ x => k95_mkM _ _ _ x) ?_ (fun _ _ => trivial)
        rw [sortRows_len]
        show (grow (putRow id (Sort.ahead w n) g 0 (flatK enRow 5 _)) os).ownsRow _ _ _ _ _ _
        rw [hf]
        exact own_put hown (by rw [flat_len enRow 5 (fun _ => rfl), flat_len enRow 5 (fun _ => rfl), sortRows_len]) n os
      · exact grown_put w g n _ os)
  have hlt : ¬ (20 : Int) ≤ (xs.length : Int) := by omega
  have hlt2 : ¬ 20 ≤ xs.length := by omega
  have hlt3 : ¬ (20 : Int) < (xs.length : Int) := by omega
  have hlt4 : ¬ 20 < xs.length := by omega
  clear hR
  go_enter Tryz.func51, Tryz.ntmps51
  go_wp2
  go_loopw [7, 8] (fun a b wr => a = .int .i64 0 ∧ b = .int .i64 20 ∧ wr = w) (fun _ _ _ => 0)
  case atStart => exact ⟨rfl, rfl, rfl⟩
  case round =>
    obtain ⟨rfl, rfl, rfl⟩ := hrel
    go_wp2_with (first | (go_at_call 74; refine HI.out.mono ?_; rintro e w1 ⟨rfl, hR1, hG1⟩; have HR1 := Lib.hid hR1; have HG1 := Lib.hid hG1; clear hR1 hG1))
    go_loopw [6] (fun a wr => a = .int .i64 20 ∧ wr = w1) (fun _ _ => 0)
    case atStart => exact ⟨rfl, rfl⟩
    case round =>
      obtain ⟨rfl, rfl⟩ := hrel
      go_wp2
      go_end0
      exact ⟨rfl, HR1.out, HG1.out⟩
set_option maxRecDepth 100000 in
theorem sortStable_any (xs : List S95) (hn : xs.length < 20) (base : Nat) (v : Value) (w : World) (hR : Kd.R k95 95 w base (fun _ => True) v xs) :
    Calls Tryz.prog 34 #[v, .func (.func 35) #[] #[]] w fun e w' => e = .returned (.tuple #[]) ∧ Kd.R k95 95 w' base (fun _ => True) v (sortRows xs) ∧ w.grownBy w' v.ownBlock := by
  have HI := Lib.hid (stable_any xs hn base v w hR)
  obtain ⟨A, c, rfl⟩ := Kd.R_slice hR
  clear hR
  go_enter Tryz.func34, Tryz.ntmps34
  go_wp2_with (first | (go_at_call 51; refine HI.out.mono ?_; rintro e w1 ⟨rfl, hR1, hG1⟩; have HR1 := Lib.hid hR1; have HG1 := Lib.hid hG1; clear hR1 hG1))
  go_end0
  exact ⟨rfl, HR1.out, HG1.out⟩
end Go.Proofs.YtkbamfiokhmpjaaGreatDoor

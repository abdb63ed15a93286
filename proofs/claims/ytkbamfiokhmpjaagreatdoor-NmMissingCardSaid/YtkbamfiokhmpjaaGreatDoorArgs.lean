/- Of no program: a slice among the arguments whose elements are flat is read as a list. -/
import Derived.Test.YtkbamfiokhmpjaaGreatDoorKit
import Derived.ChangeArms
import Derived.WideShapes
import Derived.ProofKit
namespace Go.Proofs.YtkbamfiokhmpjaaGreatDoor
set_option linter.unusedVariables false
set_option linter.unusedSimpArgs false
open Go.RowKit

theorem mapM_range_get {w : World} {a : Addr} {n : Nat} {cs : List Value} (h : (List.range n).mapM (fun i => w.cell? (a.add i)) = some cs) : cs.length = n ∧ ∀ j u, cs[j]? = some u → w.cell? (a.add j) = some u := by
  have hl := Lib.mapM_length h
  refine ⟨by simpa using hl, fun j u hj => ?_⟩
  have hlt : j < n := by
    rcases Nat.lt_or_ge j cs.length with hh | hh
    · simpa [hl] using hh
    · rw [List.getElem?_eq_none hh] at hj; cases hj
  obtain ⟨b, hb, hf⟩ := Lib.mapM_at h j j (by simp [hlt])
  rw [hb] at hj
  obtain rfl := Option.some.inj hj
  exact hf
theorem add_add (b o i j : Nat) : ((⟨b, o, none⟩ : Addr).add i).add j = ⟨b, o + i + j, none⟩ := by rw [Lib.add_plain, Lib.add_plain]
/-- A list of values that fit a list of places. -/
theorem choose_list {α : Type} {n : Nat} {p : Nat → α → Prop} (h : ∀ i, i < n → ∃ z, p i z) : ∃ l : List α, l.length = n ∧ ∀ i (hi : i < l.length), p i l[i] := by
  induction n with
  | zero => exact ⟨[], rfl, fun i hi => by simp at hi⟩
  | succ n ih =>
    obtain ⟨l, hl, hp⟩ := ih (fun i hi => h i (by omega))
    obtain ⟨z, hz⟩ := h n (by omega)
    refine ⟨l ++ [z], by simp [hl], fun i hi => ?_⟩
    by_cases h2 : i < l.length
    · rw [List.getElem_append_left h2]; exact hp i h2
    · have : i = l.length := by simp at hi; omega
      subst this
      simpa [hl] using hz
theorem rd_of_trod {H : Type} {enc : TypeId × Value → H} {P : Program} {w : World} {sp : Nat → Bool} {held : Bool} {t e : TypeId} (ht : P.underlying t = some (.slice e)) (sz : Nat) (hc : P.cellsOf e = sz) (hsz : 0 < sz)
    {α : Type} (en : α → List Value) (hen : ∀ z, (en z).length = sz) (Q : α → Prop) (hel : ∀ n cs x, DataW.trod enc P w 0 sp held n e cs = some x → ∃ z, cs = en z ∧ Q z)
    {r : Reach} {b0 : Nat} {v : Value} {d : DataW H} {ps : List MemPlace} (hval : Value.okWide P w r b0 t v) (h : DataW.Trod enc P w 0 sp held t v d ps) :
    ∃ (l : List α) (a : Option Addr) (c : Nat), v = .slice a l.length c ∧ Rd w a (l.flatMap en) ∧ (∀ z ∈ l, Q z) ∧ l.length ≤ c ∧ l.length ≤ maxLen := by
  obtain ⟨a, len, cap, rfl⟩ := Go.WideShapes.okWide_slice ht hval
  obtain ⟨fuel, hf⟩ := h
  rcases DataW.trod_slice ht hf with ⟨h1, _⟩ | ⟨ad, len', cap', elems, rest, n, _, h1, _, _, h4, h5, h6, h7, _⟩
  · have e1 : a = none ∧ len = 0 ∧ cap = 0 := by simpa [Value.cells] using h1
    obtain ⟨rfl, rfl, rfl⟩ := e1
    exact ⟨[], none, 0, rfl, .inl rfl, by simp, by simp⟩
  · have e1 : a = some ad ∧ len = len' ∧ cap = cap' := by simpa [Value.cells] using h1
    obtain ⟨rfl, rfl, rfl⟩ := e1
    rw [hc] at h7
    obtain ⟨l, hl, hp⟩ := choose_list (n := len) (p := fun i z => w.cells? 0 (ad.add (i * sz)) sz = some (en z) ∧ Q z) (fun i hi => by
      have h8 := h7 i hi
      rw [List.getElem?_eq_getElem (by omega)] at h8
      obtain ⟨cs, hcs, hx⟩ := Option.bind_eq_some_iff.1 h8
      obtain ⟨z, rfl, hq⟩ := hel _ _ _ hx
      exact ⟨z, hcs, hq⟩)
    have hcell : ∀ i (hi : i < l.length) j u, (en l[i])[j]? = some u → w.cell? ((ad.add (i * sz)).add j) = some u := fun i hi j u hj => by
      have h8 := (hp i hi).1
      unfold World.cells? at h8
      rw [if_pos (Nat.zero_le _)] at h8
      exact (mapM_range_get h8).2 j u hj
    refine ⟨l, some ad, cap, by rw [hl], ?_, fun z hz => ?_, by omega, by omega⟩
    · cases l with
      | nil => exact .inl rfl
      | cons z0 l0 =>
        have hz0 : 0 < (en z0).length := by rw [hen]; exact hsz
        have hu := hcell 0 (by simp) 0 (en z0)[0] (by simp [hz0])
        obtain ⟨b, o, sp'⟩ := ad
        have hs : sp' = none := by
          cases sp' with
          | none => rfl
          | some q => simp [Addr.add, World.cell?] at hu; split at hu <;> simp at hu
        subst hs
        refine .inr ⟨b, o, rfl, fun j u hj => ?_⟩
        have hjl : j < (z0 :: l0).length * sz := by
          rcases Nat.lt_or_ge j ((z0 :: l0).flatMap en).length with hh | hh
          · rwa [flat_length en sz hen] at hh
          · rw [List.getElem?_eq_none hh] at hj; cases hj
        have hi : j / sz < (z0 :: l0).length := (Nat.div_lt_iff_lt_mul hsz).2 hjl
        have hq : j % sz < sz := Nat.mod_lt _ hsz
        have e := Nat.div_add_mod j sz
        have e2 : j / sz * sz + j % sz = j := by rw [Nat.mul_comm]; exact e
        have h9 := flat_get en sz hen (z0 :: l0) (j / sz) hi (j % sz) hq
        rw [e2, hj] at h9
        have := hcell (j / sz) hi (j % sz) u h9.symm
        rw [add_add, Nat.add_assoc, e2] at this
        exact this
    · obtain ⟨i, hi, rfl⟩ := List.mem_iff_getElem.1 hz
      exact (hp i hi).2
end Go.Proofs.YtkbamfiokhmpjaaGreatDoor

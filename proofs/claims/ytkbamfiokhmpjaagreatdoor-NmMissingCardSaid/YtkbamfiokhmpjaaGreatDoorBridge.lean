/- Between the two ways to say what a slice reads as ('Rd' and the printed words' 'Kd'); of no program. -/
import Derived.Test.YtkbamfiokhmpjaaGreatDoorArgs
import Derived.Test.YtkbamfiokhmpjaaGreatDoorWMore
namespace Go.Proofs.YtkbamfiokhmpjaaGreatDoor
set_option linter.unusedVariables false
set_option linter.unusedSimpArgs false
open Go.RowKit Go.Proofs.YtkbamfiokhmpjaaGreatDoorW.PrintWords

theorem rd_of_cells {α : Type} (en : α → List Value) (sz : Nat) (hsz : 0 < sz) (hen : ∀ z, (en z).length = sz) {w : World} {ad : Addr} {l : List α} (hcell : ∀ i (hi : i < l.length) j u, (en l[i])[j]? = some u → w.cell? (ad.add (i * sz + j)) = some u) : Rd w (some ad) (l.flatMap en) := by
  cases l with
  | nil => exact .inl rfl
  | cons z0 l0 =>
    have hz0 : 0 < (en z0).length := by rw [hen]; exact hsz
    have hu := hcell 0 (by simp) 0 (en z0)[0] (by simp [hz0])
    obtain ⟨b, o, sp'⟩ := ad
    have hs : sp' = none := by
      cases sp' with
      | none => rfl
      | some q => simp [Addr.add, World.cell?] at hu; split at hu <;> simp at hu
    subst hs
    refine .inr ⟨b, o, rfl, fun j u hj => ?_⟩
    have hjl : j < (z0 :: l0).length * sz := by
      rcases Nat.lt_or_ge j ((z0 :: l0).flatMap en).length with hh | hh
      · rwa [flat_length en sz hen] at hh
      · rw [List.getElem?_eq_none hh] at hj; cases hj
    have hi : j / sz < (z0 :: l0).length := (Nat.div_lt_iff_lt_mul hsz).2 hjl
    have hq : j % sz < sz := Nat.mod_lt _ hsz
    have e := Nat.div_add_mod j sz
    have e2 : j / sz * sz + j % sz = j := by rw [Nat.mul_comm]; exact e
    have h9 := flat_get en sz hen (z0 :: l0) (j / sz) hi (j % sz) hq
    rw [e2, hj] at h9
    have := hcell (j / sz) hi (j % sz) u h9.symm
    rw [e2, Lib.add_plain] at this
    exact this
theorem rd_of_C {α : Type} {d : Kd α} (en : α → List Value) (hsz : 0 < d.sz) (hen : ∀ z, (en z).length = d.sz) (hK : ∀ w x cs, d.K w x cs → cs = en x) {w : World} {A : Option Addr} {n : Nat} {l : List α} (h : d.C w A n l) : Rd w A (l.flatMap en) := by
  rcases Nat.eq_zero_or_pos n with h0 | h0
  · have : l = [] := List.eq_nil_of_length_eq_zero (by have := h.1; omega)
    subst this; exact .inl rfl
  · obtain ⟨ad, rfl, hc⟩ := h.2.2 h0
    refine rd_of_cells en d.sz hsz hen (fun i hi j u hj => ?_)
    obtain ⟨c, _, hk, hcell⟩ := hc i _ (List.getElem?_eq_getElem hi)
    rw [hK _ _ _ hk] at hcell
    exact hcell j u hj
theorem C_of_rd {α : Type} {d : Kd α} (en : α → List Value) (hen : ∀ z, (en z).length = d.sz) (hK : ∀ w x, d.K w x (en x)) {w : World} {A : Option Addr} {l : List α} (h : Rd w A (l.flatMap en)) (hl : l.length ≤ 9223372036854775807) (hsz : 0 < d.sz) : d.C w A l.length l := by
  refine ⟨rfl, hl, fun hn => ?_⟩
  obtain ⟨b, o, rfl, hc⟩ := h.at (by rw [flat_length en d.sz hen]; exact Nat.mul_pos hn hsz)
  refine ⟨⟨b, o, none⟩, rfl, fun j p hj => ⟨en p, hen p, hK w p, fun i u hu => ?_⟩⟩
  rw [Lib.add_plain]
  have hjl : j < l.length := (List.getElem?_eq_some_iff.1 hj).1
  have hil : i < d.sz := by
    have := (List.getElem?_eq_some_iff.1 hu).1
    rwa [hen] at this
  refine hc _ u ?_
  rw [flat_get en d.sz hen l j hjl i hil]
  have : l[j] = p := by have := List.getElem?_eq_getElem hjl; rw [hj] at this; exact (Option.some.inj this).symm
  rw [this]; exact hu
theorem reps_flat {α : Type} {R : α → List Value → Prop} (en : α → List Value) (sz : Nat) (hen : ∀ z, (en z).length = sz) (hR : ∀ x, R x (en x)) (l : List α) : Reps R sz l (l.flatMap en) := by
  refine ⟨flat_length en sz hen l, fun j p hj => ?_⟩
  have hjl : j < l.length := (List.getElem?_eq_some_iff.1 hj).1
  have hp : l[j] = p := by have := List.getElem?_eq_getElem hjl; rw [hj] at this; exact (Option.some.inj this).symm
  have : ((l.flatMap en).drop (j * sz)).take sz = en p := by
    apply List.ext_getElem?
    intro i
    rw [List.getElem?_take]
    split
    · rename_i hi
      rw [List.getElem?_drop, flat_get en sz hen l j hjl i hi, hp]
    · rename_i hi
      rw [List.getElem?_eq_none (by rw [hen]; omega)]
  rw [this]; exact hR p
/-- A row of one's own, told in the printed words. -/
theorem R_of_owns {α : Type} {d : Kd α} (en : α → List Value) (hen : ∀ z, (en z).length = d.sz) (hM : ∀ w base ok x, d.M w base ok x (en x)) {w : World} {base : Nat} {e : TypeId} {ok : Nat → Prop} {v : Value} {l : List α}
    (h : w.ownsRow base e d.sz v l.length (l.flatMap en)) (hok : ∀ k, v.ownBlock = some k → ok k) : d.R e w base ok v l := ⟨hok, _, h, reps_flat en d.sz hen (hM w base _) l⟩
theorem flat_congr {α β : Type} {f g : α → List β} {l : List α} (h : ∀ x, x ∈ l → f x = g x) : l.flatMap f = l.flatMap g := by
  induction l with
  | nil => rfl
  | cons x r ih => rw [List.flatMap_cons, List.flatMap_cons, h x (by simp), ih (fun y hy => h y (by simp [hy]))]
theorem R_none {α : Type} (d : Kd α) (e : TypeId) (w : World) (base : Nat) (ok : Nat → Prop) : d.R e w base ok (.slice none 0 0) [] := Kd.R_nil d e w base ok
theorem wrap_s {x : Int} (h0 : -9223372036854775808 ≤ x) (h1 : x ≤ 9223372036854775807) : wrap64 x = x := by unfold wrap64; omega
theorem ba_size (l : List UInt8) : (⟨l.toArray⟩ : ByteArray).size = l.length := by simp [ByteArray.size]
theorem ba_data (l : List UInt8) : (⟨l.toArray⟩ : ByteArray).data.toList = l := by simp
theorem ba_list (l : List UInt8) : (⟨l.toArray⟩ : ByteArray).toList = l := by rw [ByteArray.toList_eq]
theorem ba_nil : (⟨#[]⟩ : ByteArray) = ⟨([] : List UInt8).toArray⟩ := rfl
theorem ba_ext (s : ByteArray) : ∃ l : List UInt8, s = ⟨l.toArray⟩ := ⟨s.data.toList, by cases s; simp⟩

theorem small {a : Nat} (h : a ≤ 1000000000) : a ≤ 9223372036854775807 := Nat.le_trans h (by decide)
theorem sum_small {a b : List UInt8} (h : a.length + b.length ≤ 1000000000) : (⟨a.toArray⟩ : ByteArray).size + (⟨b.toArray⟩ : ByteArray).size ≤ 9223372036854775807 := by rw [ba_size, ba_size]; exact small h
theorem wrap_up (i : Nat) (h : i ≤ 1000000000) : wrap64 ((i : Int) + 1) = ((i + 1 : Nat) : Int) := by rw [wrap_s (by omega) (by omega)]; rfl
end Go.Proofs.YtkbamfiokhmpjaaGreatDoor

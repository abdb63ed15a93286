/- Arguments of whatever plain kind: what can be read as data is told in the printed words; of no program. -/
import Derived.Test.YtkbamfiokhmpjaaGreatDoorBridge
import Derived.OpenShut
import Derived.Deep.Slices
import Derived.Deep.Fields
namespace Go.Proofs.YtkbamfiokhmpjaaGreatDoor
set_option linter.unusedVariables false
set_option linter.unusedSimpArgs false
open Go.RowKit Go.Proofs.YtkbamfiokhmpjaaGreatDoorW.PrintWords

/-- Cells that read as data of type t are of kind d, and Q holds of what they hold. -/
def Opens {H : Type} (enc : TypeId × Value → H) (P : Program) (w : World) (sp : Nat → Bool) (held : Bool) {α : Type} (t : TypeId) (d : Kd α) (Q : α → Prop) : Prop :=
  ∀ n cs x, DataW.trod enc P w 0 sp held n t cs = some x → ∃ z, d.K w z cs ∧ Q z
/-- The parts of a struct (or an array): types and places; what stands from a place on is of kind d. -/
def OpensP {H : Type} (enc : TypeId × Value → H) (P : Program) (w : World) (sp : Nat → Bool) (held : Bool) {α : Type} (ps : List (TypeId × Nat)) (off : Nat) (d : Kd α) (Q : α → Prop) : Prop :=
  ∀ cs : List Value, cs.length = off + d.sz → (∀ p ∈ ps, ∃ n y, DataW.trod enc P w 0 sp held n p.1 ((cs.drop p.2).take (P.cellsOf p.1)) = some y) → ∃ z, d.K w z (cs.drop off) ∧ Q z
section
variable {H : Type} {enc : TypeId × Value → H} {P : Program} {w : World} {sp : Nat → Bool} {held : Bool}
theorem Opens.int {t : TypeId} {k : IntKind} (ht : P.underlying t = some (.int k)) : Opens enc P w sp held t (Kd.int k) (fun z => (Lit.int k z).wf = true) := by
  intro n cs x h
  obtain ⟨a, rfl, _, wa⟩ := DataW.trod_int ht h
  exact ⟨a, rfl, wa⟩
theorem Opens.bool {t : TypeId} (ht : P.underlying t = some .bool) : Opens enc P w sp held t Kd.bool (fun _ => True) := by
  intro n cs x h
  obtain ⟨a, rfl, _⟩ := DataW.trod_bool ht h
  exact ⟨a, rfl, trivial⟩
theorem Opens.string {t : TypeId} (ht : P.underlying t = some .string) : Opens enc P w sp held t Kd.string (fun s => s.size ≤ maxLen) := by
  intro n cs x h
  obtain ⟨a, rfl, _, ha⟩ := DataW.trod_string ht h
  exact ⟨a, rfl, ha⟩
theorem Opens.slice {t e : TypeId} {α : Type} {d : Kd α} {Q : α → Prop} (ht : P.underlying t = some (.slice e)) (hc : P.cellsOf e = d.sz) (he : Opens enc P w sp held e d Q) : Opens enc P w sp held t (Kd.slice e d) (fun l => (∀ z ∈ l, Q z) ∧ l.length ≤ maxLen) := by
  intro fuel cs x h
  rcases DataW.trod_slice ht h with ⟨rfl, _⟩ | ⟨ad, len, cap, elems, rest, n, _, rfl, _, _, h4, h5, h6, h7, _⟩
  · exact ⟨[], ⟨none, 0, rfl, Nat.le_refl _, rfl, by simp, fun hn => absurd hn (by simp)⟩, by simp, by simp⟩
  · rw [hc] at h7
    obtain ⟨l, hl, hp⟩ := choose_list (n := len) (p := fun i z => ∃ c, w.cells? 0 (ad.add (i * d.sz)) d.sz = some c ∧ d.K w z c ∧ Q z) (fun i hi => by
      have h8 := h7 i hi
      rw [List.getElem?_eq_getElem (by omega)] at h8
      obtain ⟨c, hcs, hx⟩ := Option.bind_eq_some_iff.1 h8
      obtain ⟨z, hk, hq⟩ := he _ _ _ hx
      exact ⟨z, c, hcs, hk, hq⟩)
    refine ⟨l, ⟨some ad, cap, by rw [hl], by omega, rfl, by unfold maxLen at h5; omega, fun hn => ⟨ad, rfl, fun j p hj => ?_⟩⟩, fun z hz => ?_, by omega⟩
    · have hjl : j < l.length := (List.getElem?_eq_some_iff.1 hj).1
      obtain ⟨c, hcs, hk, _⟩ := hp j hjl
      have hpe : l[j] = p := by have := List.getElem?_eq_getElem hjl; rw [hj] at this; exact (Option.some.inj this).symm
      rw [hpe] at hk
      refine ⟨c, d.K_len hk, hk, fun i u hu => ?_⟩
      unfold World.cells? at hcs
      rw [if_pos (Nat.zero_le _)] at hcs
      have := (mapM_range_get hcs).2 i u hu
      rw [← Go.Deep.add_add]; exact this
    · obtain ⟨i, hi, rfl⟩ := List.mem_iff_getElem.1 hz
      obtain ⟨_, _, _, hq⟩ := hp i hi
      exact hq
theorem OpensP.one {t : TypeId} {off : Nat} {α : Type} {d : Kd α} {Q : α → Prop} (hc : P.cellsOf t = d.sz) (h : Opens enc P w sp held t d Q) : OpensP enc P w sp held [(t, off)] off d Q := by
  intro cs hl hp
  obtain ⟨n, y, hy⟩ := hp (t, off) (by simp)
  obtain ⟨z, hk, hq⟩ := h _ _ _ hy
  simp only [hc] at hk
  rw [List.take_of_length_le (by rw [List.length_drop]; omega)] at hk
  exact ⟨z, hk, hq⟩
theorem OpensP.cons {t : TypeId} {off : Nat} {ps : List (TypeId × Nat)} {α β : Type} {a : Kd α} {b : Kd β} {Qa : α → Prop} {Qb : β → Prop} (hc : P.cellsOf t = a.sz) (h : Opens enc P w sp held t a Qa) (hb : OpensP enc P w sp held ps (off + a.sz) b Qb) :
    OpensP enc P w sp held ((t, off) :: ps) off (Kd.pair a b) (fun z => Qa z.1 ∧ Qb z.2) := by
  intro cs hl hp
  have hl' : cs.length = off + (a.sz + b.sz) := hl
  obtain ⟨n, y, hy⟩ := hp (t, off) (by simp)
  obtain ⟨z, hk, hq⟩ := h _ _ _ hy
  simp only [hc] at hk
  obtain ⟨z2, hk2, hq2⟩ := hb cs (by omega) (fun p hp' => hp p (by simp [hp']))
  refine ⟨(z, z2), ⟨(cs.drop off).take a.sz, cs.drop (off + a.sz), ?_, hk, hk2⟩, hq, hq2⟩
  rw [← List.drop_drop, List.take_append_drop]
theorem Opens.struct {t : TypeId} {fs : Array Field} {α β : Type} {d : Kd α} {f : β → α} {Q : α → Prop} (g : α → β) (hg : ∀ z, f (g z) = z) (ht : P.underlying t = some (.struct fs)) (hc : P.cellsOf t = d.sz) {ps : List (TypeId × Nat)} (hps : fs.toList.map (fun f => (f.type, f.offset)) = ps)
    (h : OpensP enc P w sp held ps 0 d Q) : Opens enc P w sp held t (Kd.iso d f) (fun x => Q (f x)) := by
  intro fuel cs x hx
  obtain ⟨xs, n, _, _, hl, hxl, hf⟩ := DataW.trod_struct ht hx
  obtain ⟨z, hk, hq⟩ := h cs (by rw [hl, hc]; omega) (fun p hp => by
    rw [← hps] at hp
    obtain ⟨fd, hfd, rfl⟩ := List.mem_map.1 hp
    obtain ⟨i, hi, rfl⟩ := List.mem_iff_getElem.1 hfd
    have hi' : i < fs.size := by simpa using hi
    have := hf i fs[i] (Array.getElem?_eq_getElem hi')
    refine ⟨n, xs[i]'(by omega), ?_⟩
    rw [List.getElem?_eq_getElem (by omega)] at this
    simpa using this)
  rw [List.drop_zero] at hk
  exact ⟨g z, by show d.K w (f (g z)) cs; rw [hg]; exact hk, by show Q (f (g z)); rw [hg]; exact hq⟩
theorem Opens.array {t e : TypeId} {m : Nat} {α β : Type} {d : Kd α} {f : β → α} {Q : α → Prop} (g : α → β) (hg : ∀ z, f (g z) = z) (ht : P.underlying t = some (.array m e)) (hc : P.cellsOf t = d.sz) {ps : List (TypeId × Nat)} (hps : (List.range m).map (fun i => (e, i * P.cellsOf e)) = ps)
    (h : OpensP enc P w sp held ps 0 d Q) : Opens enc P w sp held t (Kd.iso d f) (fun x => Q (f x)) := by
  intro fuel cs x hx
  obtain ⟨xs, n, _, _, hl, hxl, hf⟩ := DataW.trod_array ht hx
  obtain ⟨z, hk, hq⟩ := h cs (by rw [hl, hc]; omega) (fun p hp => by
    rw [← hps] at hp
    obtain ⟨i, hi, rfl⟩ := List.mem_map.1 hp
    have hi' : i < m := by simpa using hi
    have := hf i hi'
    rw [List.getElem?_eq_getElem (by omega)] at this
    exact ⟨n, _, this⟩)
  rw [List.drop_zero] at hk
  exact ⟨g z, by show d.K w (f (g z)) cs; rw [hg]; exact hk, by show Q (f (g z)); rw [hg]; exact hq⟩
theorem open_slice_arg {t e : TypeId} {α : Type} {d : Kd α} {Q : List α → Prop} {r : Reach} {b0 : Nat} {v : Value} {D : DataW H} {ps : List MemPlace} (ht : P.underlying t = some (.slice e)) (ho : Opens enc P w sp held t (Kd.slice e d) Q) (hval : Value.okWide P w r b0 t v)
    (h : DataW.Trod enc P w 0 sp held t v D ps) : ∃ (l : List α) (a : Option Addr) (c : Nat), v = .slice a l.length c ∧ l.length ≤ c ∧ d.C w a l.length l ∧ Q l := by
  obtain ⟨a, len, cap, rfl⟩ := Go.WideShapes.okWide_slice ht hval
  obtain ⟨fuel, hf⟩ := h
  obtain ⟨l, ⟨A, c, hcs, hl, hC⟩, hq⟩ := ho _ _ _ hf
  have e1 : a = A ∧ len = l.length ∧ cap = c := by simpa [Value.cells] using hcs
  obtain ⟨rfl, rfl, rfl⟩ := e1
  exact ⟨l, a, cap, rfl, hl, hC, hq⟩
theorem open_agg_arg {t : TypeId} {fs : Array Field} {α : Type} {d : Kd α} {Q : α → Prop} {r : Reach} {b0 : Nat} {v : Value} {D : DataW H} {ps : List MemPlace} (ht : P.underlying t = some (.struct fs)) (ho : Opens enc P w sp held t d Q) (hval : Value.okWide P w r b0 t v)
    (h : DataW.Trod enc P w 0 sp held t v D ps) : ∃ (z : α) (cs : List Value), v = .agg cs.toArray ∧ d.K w z cs ∧ Q z := by
  obtain ⟨cs, rfl, _⟩ := Go.WideShapes.okWide_struct ht hval
  obtain ⟨fuel, hf⟩ := h
  obtain ⟨z, hk, hq⟩ := ho _ _ _ hf
  exact ⟨z, cs.toList, by simp, by simpa [Value.cells] using hk, hq⟩
end
end Go.Proofs.YtkbamfiokhmpjaaGreatDoor

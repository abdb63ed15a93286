/- Small laws on worlds, of no program: what lies below a block stays as it is. -/
import Derived.WalkKit
import Derived.ProofKit
import Derived.WalkSmall
import Derived.Lib.LaidTab
import Derived.Lib.ItoaMem
import Derived.Lib.ConvBytes
import Derived.Lib.LaidU8
import Derived.Laws.OwnMore
import Derived.OwnWalk
namespace Go.Proofs.YtkbamfiokhmpjaaGreatDoor
set_option linter.unusedVariables false
set_option linter.unusedSimpArgs false
open Go.RowKit Go.Sort

theorem below_grow (w : World) (os : Array Obj) : Below w.heap.size w (grow w os) :=
  ⟨rfl, rfl, rfl, by simp [grow], fun k hk => by simp [grow, Array.getElem?_append, hk]⟩
theorem below_putRow_new {α : Type} [Inhabited α] (enc : α → Value) (w : World) (o : Obj) (off : Nat) (d : Array α) (k : Nat) : Below w.heap.size w ((putRow enc (w.alloc o) w.heap.size off d).drewN k) := by
  refine Go.below_drewN ?_ k
  rw [alloc_eq_grow]
  obtain ⟨os', _, e⟩ := putRow_grow_new enc w #[o] w.heap.size off d (Nat.le_refl _)
  rw [e]
  exact below_grow w os'
theorem var_lt {P : Program} {w : World} {n : String} {cs : Array Value} (h : w.var? P n = some cs) : ∃ g, P.globalNamed n = some g ∧ g < w.heap.size := by
  unfold World.var? at h
  cases hg : P.globalNamed n with
  | none => simp [hg] at h
  | some g =>
    refine ⟨g, rfl, ?_⟩
    simp only [hg, Option.bind_some] at h
    rcases Nat.lt_or_ge g w.heap.size with hh | hh
    · exact hh
    · rw [Array.getElem?_eq_none hh] at h
      simp at h
theorem tabIs_below {P : Program} {w w' : World} {n : String} {k : IntKind} {zs : List Int} (h : Lib.TabIs P w n k zs) (hb : Below w.heap.size w w') : Lib.TabIs P w' n k zs := by
  obtain ⟨g, hg, hl⟩ := var_lt h
  exact var?_below hb hg hl h
/-- Of what 'Below' tells, the step behind another. -/
theorem below_step {w w1 w2 : World} (h : Below w.heap.size w w1) (h2 : Below w1.heap.size w1 w2) : Below w.heap.size w w2 := h.trans (h2.mono h.size)
theorem below_bytesWorld (w : World) (e : TypeId) (s : ByteArray) : Below w.heap.size w (Lib.bytesWorld w e s) :=
  ⟨by simp [Lib.bytesWorld, World.freeze]; rfl, by simp [Lib.bytesWorld, World.freeze], by simp [Lib.bytesWorld, World.freeze]; rfl, by rw [Lib.bytesWorld_size]; omega, fun k hk => Lib.bytesWorld_at_old w e s k hk⟩
theorem tabIs_of_mem {P : Program} {W : World} {l : List (String × DataW Unit)} {name : String} {k : IntKind} {zs : List Int} {g : Nat} {t e : TypeId} {n : Nat}
    (hg : P.globalNamed name = some g) (hty : (P.globals[g]?).map (·.type) = some t) (ht : P.underlying t = some (.array n e)) (he : P.underlying e = some (.int k)) (hce : P.cellsOf e = 1) (hct : P.cellsOf t = n)
    (h : laidMet P l W) (hm : (name, Lib.tabData k zs) ∈ l) : Lib.TabIs P W name k zs := by
  obtain ⟨g', t', cs, fuel, p, hg', ht', hvar, hd⟩ := Lib.laidMet.reads h hm
  obtain rfl := Option.some.inj (hg.symm.trans hg')
  obtain rfl := Option.some.inj (hty.symm.trans ht')
  unfold Lib.TabIs
  rw [hvar, ← Lib.cells_of_tab ht he hce hct hd]

theorem ext_list (l : List UInt8) (a b : Nat) : (⟨l.toArray⟩ : ByteArray).extract a b = ⟨((l.drop a).take (b - a)).toArray⟩ := by
  apply ByteArray.ext
  rw [ByteArray.data_extract]
  simp [List.extract_toArray, List.extract_eq_take_drop]
theorem heap_at (w : World) (o : Obj) (n : Nat) (hn : n = w.heap.size) : (w.alloc o).heap[n]? = some o := by
  subst hn
  show (w.heap.push o)[w.heap.size]? = _
  simp
theorem heap_past (w : World) (o : Obj) (n : Nat) (hn : n < w.heap.size) : (w.alloc o).heap[n]? = w.heap[n]? := Below.heap_alloc w o n hn
/-! ### Slices that are read: 'Rd w a cs': behind a stand the cells cs, one behind the other (several an element). -/
def Rd (w : World) (a : Option Addr) (cs : List Value) : Prop := cs = [] ∨ ∃ b o, a = some ⟨b, o, none⟩ ∧ ∀ j u, cs[j]? = some u → w.cell? ⟨b, o + j, none⟩ = some u
theorem Rd.nil (w : World) (a : Option Addr) : Rd w a [] := .inl rfl
theorem Rd.at {w : World} {a : Option Addr} {cs : List Value} (h : Rd w a cs) (hn : 0 < cs.length) : ∃ b o, a = some ⟨b, o, none⟩ ∧ ∀ j u, cs[j]? = some u → w.cell? ⟨b, o + j, none⟩ = some u := by
  rcases h with rfl | h
  · simp at hn
  · exact h
theorem cell_lt {w : World} {p : Addr} {u : Value} (h : w.cell? p = some u) : p.block < w.heap.size := by
  rcases Nat.lt_or_ge p.block w.heap.size with hh | hh
  · exact hh
  · simp [World.cell?, Array.getElem?_eq_none hh] at h
theorem Rd.news {w : World} {ad : Addr} {cs : List Value} (h : Rd w (some ad) cs) : ∀ (j : Nat) (u : Value), cs[j]? = some u → w.cell? (ad.add j) = some u := by
  rcases h with rfl | ⟨b, o, ha, hc⟩
  · intro j u hj; simp at hj
  · intro j u hj
    obtain rfl := Option.some.inj ha
    rw [Lib.add_plain]
    exact hc j u hj
theorem Rd.none_nil {w : World} {cs : List Value} (h : Rd w none cs) : cs = [] := by
  rcases h with h | ⟨b, o, ha, _⟩
  · exact h
  · cases ha
theorem Rd.below {w w' : World} {a : Option Addr} {cs : List Value} (h : Rd w a cs) (hb : Below w.heap.size w w') : Rd w' a cs := by
  rcases h with rfl | ⟨b, o, ha, hc⟩
  · exact .inl rfl
  · exact .inr ⟨b, o, ha, fun j u hj => by have := hc j u hj; rw [hb.cell (cell_lt this)]; exact this⟩
theorem Rd.alloc {w : World} {a : Option Addr} {cs : List Value} (h : Rd w a cs) (o : Obj) : Rd (w.alloc o) a cs := h.below ((Below.refl _ _).alloc (Nat.le_refl _) o)
theorem Rd.of_own {w : World} {base : Nat} {e : TypeId} {size n : Nat} {a : Option Addr} {m c : Nat} {cs : List Value} (h : w.ownsRow base e size (.slice a m c) n cs) : Rd w a cs := by
  cases a with
  | none =>
    obtain ⟨hl, h | ⟨g, cap, cur, hv, _⟩⟩ := h
    · obtain ⟨_, rfl⟩ := h
      left; exact List.eq_nil_of_length_eq_zero (by omega)
    · cases hv
  | some ad =>
    have h' := h
    obtain ⟨hl, ⟨hv, _⟩ | ⟨g, cap, cur, hv, _⟩⟩ := h
    · cases hv
    · right
      have e : ad = ⟨g, 0, none⟩ := by injection hv with h1 _ _; injection h1
      refine ⟨g, 0, by rw [e], fun j u hj => ?_⟩
      have := h'.cells (g := g) (by rw [e]; rfl) j u hj
      rw [Lib.add_plain] at this
      exact this
theorem below_undrew {B : Nat} {w w' : World} (h : Below B w.drew w') : Below B w w' := ⟨h.os, h.tape, h.output, h.size, h.block⟩
theorem grownBy_of_below {w w' : World} (h : Below w.heap.size w w') : w.grownBy w' none := ⟨h.os, h.tape, h.output, h.size, fun k hk _ => h.block k hk⟩
theorem ownsRow_below {w w' : World} {base : Nat} {e : TypeId} {size n : Nat} {v : Value} {cs : List Value} (h : w.ownsRow base e size v n cs) (hb : Below w.heap.size w w') : w'.ownsRow base e size v n cs := by
  obtain ⟨hl, h | ⟨g, cap, cur, hv, hg, hcur, hr⟩⟩ := h
  · exact ⟨hl, .inl h⟩
  · refine ⟨hl, .inr ⟨g, cap, cur, hv, hg, ?_, hr⟩⟩
    rw [hb.block g]; exact hcur
    rcases Nat.lt_or_ge g w.heap.size with hh | hh
    · exact hh
    · rw [Array.getElem?_eq_none hh] at hcur; cases hcur
/-- A row of the call's own is a slice with a length. -/
theorem own_slice {w : World} {base : Nat} {e : TypeId} {size n : Nat} {v : Value} {cs : List Value} (h : w.ownsRow base e size v n cs) : ∃ a c, v = .slice a n c := by
  obtain ⟨hl, ⟨rfl, rfl⟩ | ⟨g, cap, cur, rfl, _⟩⟩ := h
  · exact ⟨_, _, rfl⟩
  · exact ⟨_, _, rfl⟩
theorem new_cells (w : World) (n : Nat) (news : List Value) (T : TypeId) (hn : n = w.heap.size) : ∀ (j : Nat) (u : Value), news[j]? = some u → (w.alloc (.cells news.toArray T)).cell? ((⟨n, 0, none⟩ : Addr).add j) = some u := fun j u hj => by
  subst hn
  rw [Lib.add_plain, World.cell?_alloc_new]
  simpa using hj
/-- Cells of a list, element by element. -/
theorem flat_get {α : Type} (enc : α → List Value) (sz : Nat) (hsz : ∀ x, (enc x).length = sz) (l : List α) (i : Nat) (hi : i < l.length) (j : Nat) (hj : j < sz) : (l.flatMap enc)[i * sz + j]? = (enc l[i])[j]? := by
  induction l generalizing i with
  | nil => simp at hi
  | cons x r ih =>
    rw [List.flatMap_cons]
    cases i with
    | zero => rw [List.getElem?_append_left (by rw [hsz]; omega)]; simp
    | succ i =>
      rw [List.getElem?_append_right (by rw [hsz, Nat.succ_mul]; omega), hsz, show (i + 1) * sz + j - sz = i * sz + j by rw [Nat.succ_mul]; omega]
      rw [ih i (by simpa using hi)]; rfl
theorem flat_length {α : Type} (enc : α → List Value) (sz : Nat) (hsz : ∀ x, (enc x).length = sz) (l : List α) : (l.flatMap enc).length = l.length * sz := by
  induction l with
  | nil => simp
  | cons x r ih => rw [List.flatMap_cons, List.length_append, hsz, ih, List.length_cons, Nat.succ_mul]; omega
theorem below_own {B : Nat} {w0 wr wm w1 : World} {base : Nat} {e : TypeId} {size n : Nat} {v : Value} {cs : List Value} (hB : Below B w0 wm) (hown : wr.ownsRow base e size v n cs) (hg : wm.grownBy w1 v.ownBlock) (h1 : B ≤ wm.heap.size) (h2 : B ≤ base) : Below B w0 w1 :=
  hB.grown hg h1 (fun k hk => Nat.le_trans h2 (hown.lt k hk).1)
end Go.Proofs.YtkbamfiokhmpjaaGreatDoor

/- Contracts over this translation: cells.row. -/
import Derived.Test.YtipnoeffahnfaaaDoorCelS
import Derived.Laws.AppendOwnNone
import Derived.Maps.AppendAt
import Derived.Maps.OwnIn
namespace Go.Proofs.YtipnoeffahnfaaaDoor
set_option linter.unusedVariables false
set_option linter.unusedSimpArgs false
open Go.RowKit Go.Shelf
attribute [local go_sem] Oper.semAt_some

def strV (x : List UInt8) : Value := .string ⟨x.toArray⟩
theorem seq_any (s : ByteArray) (w : World) : Calls Tryd.prog 49 #[.string s, .string ⟨#[32]⟩, .int .i64 0] w fun e w' => e = .returned (.func (.func 60) #[] #[.pointer (some ⟨w.heap.size + 1, 0, none⟩), .pointer (some ⟨w.heap.size, 0, none⟩), .pointer (some ⟨w.heap.size + 2, 0, none⟩)]) ∧ w' = ((w.alloc (.cells #[.string s] 9)).alloc (.cells #[.string ⟨#[32]⟩] 9)).alloc (.cells #[.int .i64 0] 3) := by
  have hmf : ∀ (fn : Fn) (first cap : Array Value) (w : World), (Instr.makeFunc fn first cap).run Tryd.prog w = .ok (.func fn first cap) w := fun _ _ _ _ => rfl
  go_enter Tryd.func49, Tryd.ntmps49
  go_wp2
  go_ret
  exact ⟨rfl, rfl⟩
theorem splitSeq_any (s : ByteArray) (w : World) : Calls Tryd.prog 37 #[.string s, .string ⟨#[32]⟩] w fun e w' => e = .returned (.func (.func 60) #[] #[.pointer (some ⟨w.heap.size + 1, 0, none⟩), .pointer (some ⟨w.heap.size, 0, none⟩), .pointer (some ⟨w.heap.size + 2, 0, none⟩)]) ∧ w' = ((w.alloc (.cells #[.string s] 9)).alloc (.cells #[.string ⟨#[32]⟩] 9)).alloc (.cells #[.int .i64 0] 3) := by
  go_enter Tryd.func37, Tryd.ntmps37
  go_wp2_with (go_at_call 49; refine (seq_any _ _).mono ?_; rintro e w' ⟨rfl, rfl⟩)
  go_ret
  exact ⟨rfl, rfl⟩
theorem Tryd.infoStr : (Tryd.prog.info? 9).map (fun i => (i.zero, i.size, i.bytes)) = some (some (.string ⟨#[]⟩), 1, 16) := by kernel_rfl
/-- What holds between two rounds of row's loop. -/
def RowI (w : World) (h : Nat) (mx : Int) (N : Nat) (pre : List (List UInt8)) (W : World) : Prop :=
  ∃ ts v, (textsC pre = some ts ∧ ts.length = pre.length ∧ pre.length ≤ N) ∧ Boxed W (h + 2) 29 v ∧ W.ownsRow (h + 6) 9 1 v ts.length (ts.map strV) ∧ Boxed W h 29 (.slice none 0 0) ∧ Boxed W (h + 1) 4 (.bool false) ∧
    Boxed W (h + 4) 9 (.string ⟨#[32]⟩) ∧ Boxed W (h + 5) 3 (.int .i64 0) ∧ W.cell? ⟨1, 0, none⟩ = some (.int .i64 mx) ∧ Below h w W ∧ h + 6 ≤ W.heap.size
theorem boxed_far {W : World} {B k : Nat} {t : TypeId} {v : Value} (h : Boxed W B t v) (u : Value) (hne : B ≠ k) : Boxed (W.setCell ⟨k, 0, none⟩ u) B t v := h.kept (grownBy_setCell' W k u) (fun e => hne (by cases e; rfl))
theorem RowI.set {w : World} {h : Nat} {mx : Int} {N : Nat} {pre : List (List UInt8)} {W : World} (hg : 1 < h) (H : RowI w h mx N pre W) (u : Value) : RowI w h mx N pre (W.setCell ⟨h + 3, 0, none⟩ u) := by
  obtain ⟨ts, v, h0, h1, h2, h3, h4, h5, h6, h7, h8, h9⟩ := H
  refine ⟨ts, v, h0, boxed_far h1 u (by omega), ?_, boxed_far h3 u (by omega), boxed_far h4 u (by omega), boxed_far h5 u (by omega), boxed_far h6 u (by omega), ?_, h8.setCell (p := ⟨h + 3, 0, none⟩) (by show h ≤ h + 3; omega) u, by simp [World.setCell]; exact h9⟩
  · exact ownsRow_setCell_below h2 (a := ⟨h + 3, 0, none⟩) (by show h + 3 < h + 6; omega) u
  · rw [World.cell?_of_block (w := W) (a := ⟨1, 0, none⟩) (Below.heap_setCell W ⟨h + 3, 0, none⟩ u _ (by show (1 : Nat) ≠ h + 3; omega))]
    exact h7
theorem RowI.sep {w : World} {h : Nat} {mx : Int} {N : Nat} {pre : List (List UInt8)} {W : World} (H : RowI w h mx N pre W) : SepAt (h + 4) (h + 5) mx W := by
  obtain ⟨ts, v, h0, h1, h2, h3, h4, h5, h6, h7, h8, h9⟩ := H
  exact ⟨h5.cell, h6.cell, h7⟩
theorem cell_grown {W W' : World} {row : Option Nat} {p : Addr} {v : Value} (h : W.cell? p = some v) (hg : W.grownBy W' row) (hr : ∀ r, row = some r → ∃ o : Obj, W.heap[r]? = some o ∧ o.isCells = false) : W'.cell? p = some v := by
  have hlt := cell_lt h
  rw [World.cell?_of_block (w := W) (a := p) (hg.block p.block hlt (fun e => ?_))]
  · exact h
  · obtain ⟨o, ho, hc⟩ := hr _ e.symm
    unfold World.cell? at h
    rw [ho] at h
    cases o <;> simp_all [Obj.isCells]
theorem owns_grown {W W' : World} {row : Option Nat} {base n : Nat} {e : TypeId} {v : Value} {xs : List Value} (h : W.ownsRow base e 1 v n xs) (hg : W.grownBy W' row) (hr : ∀ r, row = some r → ∃ o : Obj, W.heap[r]? = some o ∧ o.isCells = false) : W'.ownsRow base e 1 v n xs := by
  refine h.kept hg ?_
  rcases h.2 with ⟨rfl, _⟩ | ⟨g, cap, cur, rfl, _, hgb, _⟩
  · exact .inl rfl
  · refine .inr fun e' => ?_
    obtain ⟨o, ho, hc⟩ := hr g (by simpa [Value.ownBlock] using e'.symm)
    rw [hgb] at ho; cases ho; cases hc
theorem RowI.own (w : World) (h : Nat) (mx : Int) (N B : Nat) (hB : h ≤ B) : OwnFrom B (RowI w h mx N) := by
  intro pre W W' row H hg hr
  have hr2 := fun r e => (hr r e).2
  have hne : ∀ {t : TypeId} {v : Value} {b : Nat}, Boxed W b t v → some b ≠ row := fun hb e => by
    obtain ⟨o, ho, hc⟩ := hr2 _ e.symm
    rw [show W.heap[_]? = _ from hb] at ho; cases ho; cases hc
  obtain ⟨ts, v, h0, h1, h2, h3, h4, h5, h6, h7, h8, h9⟩ := H
  exact ⟨ts, v, h0, h1.kept hg (hne h1), owns_grown h2 hg hr2, h3.kept hg (hne h3), h4.kept hg (hne h4), h5.kept hg (hne h5), h6.kept hg (hne h6), cell_grown h7 hg hr2, h8.grown hg (by omega) (fun k e => by have := (hr k e).1; omega), Nat.le_trans h9 hg.size⟩
/-- What holds when a round has left by a return: no texts, and false. -/
def RowX (w : World) (h : Nat) (l : List UInt8) (W : World) : Prop := textsC (spl 32 l) = none ∧ Boxed W h 29 (.slice none 0 0) ∧ Boxed W (h + 1) 4 (.bool false) ∧ Below h w W ∧ h + 2 ≤ W.heap.size
theorem RowX.own (w : World) (h : Nat) (l : List UInt8) (B : Nat) (hB : h ≤ B) : OwnFrom B (fun (_ : Unit) W => RowX w h l W) := by
  intro _ W W' row H hg hr
  have hne : ∀ {t : TypeId} {v : Value} {b : Nat}, Boxed W b t v → some b ≠ row := fun hb e => by
    obtain ⟨_, o, ho, hc⟩ := hr _ e.symm
    rw [show W.heap[_]? = _ from hb] at ho; cases ho; cases hc
  obtain ⟨h2, h3, h4, h8, h9⟩ := H
  exact ⟨h2, h3.kept hg (hne h3), h4.kept hg (hne h4), h8.grown hg (by omega) (fun k e => by have := (hr k e).1; omega), Nat.le_trans h9 hg.size⟩
theorem texts_snoc {x t : List UInt8} (hx : textC x = some t) : ∀ {pre ts : List (List UInt8)}, textsC pre = some ts → textsC (pre ++ [x]) = some (ts ++ [t])
  | [], ts, h => by
    injection h with h
    subst h
    simp [textsC, hx]
  | p :: ps, ts, h => by
    unfold textsC at h
    split at h
    · rename_i u us h1 h2
      injection h with h
      subst h
      have ih := texts_snoc hx h2
      rw [List.cons_append, textsC, h1, ih]; rfl
    · cases h
theorem texts_none {x : List UInt8} (hx : textC x = none) : ∀ (pre post : List (List UInt8)), textsC (pre ++ x :: post) = none
  | [], post => by rw [List.nil_append, textsC, hx]
  | p :: ps, post => by
    rw [List.cons_append, textsC, texts_none hx ps post]
    cases textC p <;> rfl
theorem RowI.below {w : World} {h : Nat} {mx : Int} {N : Nat} {pre : List (List UInt8)} {W W1 : World} (H : RowI w h mx N pre W) (hb : Below W.heap.size W W1) : RowI w h mx N pre W1 := by
  have hk : ∀ {t : TypeId} {v : Value} {b : Nat}, Boxed W b t v → Boxed W1 b t v := fun hx => (hb.block _ hx.lt).trans hx
  obtain ⟨ts, v, h0, h1, h2, h3, h4, h5, h6, h7, h8, h9⟩ := H
  exact ⟨ts, v, h0, hk h1, ownsRow_below h2 hb, hk h3, hk h4, hk h5, hk h6, (hb.cell (cell_lt h7)).trans h7, h8.trans (hb.mono (by omega)), Nat.le_trans h9 hb.size⟩
theorem keeps_below {B : Nat} {W W1 : World} (hb : Below W.heap.size W W1) : KeepsFrom B W W1 := ⟨hb.size, fun k o _ hk _ => (hb.block k (Array.getElem?_eq_some_iff.1 hk).1).trans hk⟩
/-- A text more. -/
theorem RowI.push {w : World} {h : Nat} {mx : Int} {N : Nat} {pre ts : List (List UInt8)} {x t : List UInt8} {W w1 : World} {v v' : Value} {o : Obj}
    (h0 : textsC pre = some ts ∧ ts.length = pre.length ∧ pre.length + 1 ≤ N) (hx : textC x = some t) (h1 : Boxed W (h + 2) 29 v) (h2 : W.ownsRow (h + 6) 9 1 v ts.length (ts.map strV)) (h3 : Boxed W h 29 (.slice none 0 0)) (h4 : Boxed W (h + 1) 4 (.bool false))
    (h5 : Boxed W (h + 4) 9 (.string ⟨#[32]⟩)) (h6 : Boxed W (h + 5) 3 (.int .i64 0)) (h7 : W.cell? ⟨1, 0, none⟩ = some (.int .i64 mx)) (h8 : Below h w W) (h9 : h + 6 ≤ W.heap.size) (hgm : 1 < h)
    (hown : w1.ownsRow (h + 6) 9 1 v' (ts.length + 1) (ts.map strV ++ [strV t])) (hgrow : (W.alloc o).grownBy w1 v.ownBlock) :
    Boxed w1 (h + 2) 29 v ∧ RowI w h mx N (pre ++ [x]) (w1.setCell ⟨h + 2, 0, none⟩ v') ∧ (∀ B, KeepsFrom B W (w1.setCell ⟨h + 2, 0, none⟩ v')) ∧ (w1.setCell ⟨h + 2, 0, none⟩ v').heap[h + 3]? = W.heap[h + 3]? := by
  have hrow : ∀ k, k < h + 6 → some k ≠ v.ownBlock := fun k hk e => by have := (h2.lt k e.symm).1; omega
  have hold : ∀ k, k < h + 6 → w1.heap[k]? = W.heap[k]? := fun k hk => (hgrow.block k (by simp; omega) (hrow k hk)).trans (heap_past W o k (by omega))
  have hset : ∀ k, k ≠ h + 2 → (w1.setCell ⟨h + 2, 0, none⟩ v').heap[k]? = w1.heap[k]? := fun k hk => Below.heap_setCell w1 ⟨h + 2, 0, none⟩ v' k hk
  have hbox : ∀ {t : TypeId} {u : Value} {b : Nat}, b < h + 6 → b ≠ h + 2 → Boxed W b t u → Boxed (w1.setCell ⟨h + 2, 0, none⟩ v') b t u := fun hb hne hu => (hset _ hne).trans ((hold _ hb).trans hu)
  have hbx : Boxed w1 (h + 2) 29 v := (hold _ (by omega)).trans h1
  refine ⟨hbx, ⟨ts ++ [t], v', ⟨texts_snoc hx h0.1, by simp [h0.2.1], by simp; omega⟩, hbx.set v', ?_, hbox (by omega) (by omega) h3, hbox (by omega) (by omega) h4, hbox (by omega) (by omega) h5, hbox (by omega) (by omega) h6, ?_, ?_, ?_⟩, ?_, ?_⟩
  · have := ownsRow_setCell_below hown (a := ⟨h + 2, 0, none⟩) (by show h + 2 < h + 6; omega) v'
    simpa using this
  · rw [World.cell?_of_block (w := W) (a := ⟨1, 0, none⟩) ((hset _ (by show (1 : Nat) ≠ h + 2; omega)).trans (hold _ (by show (1 : Nat) < h + 6; omega)))]
    exact h7
  · exact ((h8.alloc (by omega) o).grown hgrow (by simp; omega) (fun k e => by have := (h2.lt k e).1; omega)).setCell (p := ⟨h + 2, 0, none⟩) (by show h ≤ h + 2; omega) v'
  · have := hgrow.size; simp at this; simp [World.setCell]; omega
  · intro B
    exact ((KeepsOthers.alloc W o).trans ((KeepsOthers.of_grownBy hgrow (fun j o' ej hj => by
      rcases (h2.alloc o).2 with ⟨rfl, _⟩ | ⟨g, cap, cur, rfl, _, hgb, _⟩
      · simp [Value.ownBlock] at ej
      · obtain rfl : g = j := by simpa [Value.ownBlock] using ej
        rw [hgb] at hj; cases hj; rfl)).trans (KeepsOthers.setCell _ _ _))).from B
  · exact (hset _ (by omega)).trans (hold _ (by omega))
set_option maxRecDepth 100000 in
set_option maxHeartbeats 4000000 in
theorem row_any (l : List UInt8) (hl : l.length ≤ 1000000) (mx : Int) (w : World) (hm : w.cell? ⟨1, 0, none⟩ = some (.int .i64 mx)) :
    Calls Tryd.prog 25 #[.string ⟨l.toArray⟩] w fun e w' => (∃ v, e = .returned (.tuple #[v, .bool (rowC l).isSome]) ∧ w'.ownsRow w.heap.size 9 1 v ((rowC l).getD []).length (((rowC l).getD []).map strV)) ∧ Below w.heap.size w w' := by
  have hgm := cell_lt hm
  have HM := Lib.hid hm
  clear hm
  refine (callsIn_wide (n := 9)).1 ?_
  refine callsIn_of_wp_marks Tryd.func25 rfl trivial ?_ rfl
  simp only [Tryd.ntmps25, List.size_toArray, List.length_cons, List.length_nil, Nat.reduceAdd, Nat.reduceSub, Array.replicate_succ, Array.replicate_zero, List.push_toArray, List.append_toArray, List.nil_append, List.cons_append]
  refine wpIn_wide.2 ?_
  by_cases h0 : l = []
  · subst h0
    go_wp2
    refine ⟨.tuple #[.slice none 0 0, .bool true], (by simp [results, Tryd.results25, go_sem]), ⟨_, rfl, ?_⟩, ?_⟩
    · exact World.ownsRow_nil _ _ _ _
    · exact ((Below.refl _ _).alloc (Nat.le_refl _) _).alloc (by simp) _
  · have hne : l.isEmpty = false := Bool.eq_false_iff.2 (fun h => h0 (List.isEmpty_iff.1 h))
    have HL0 := Lib.hid h0
    clear h0
    go_wp2_with (go_at_call 37; refine (splitSeq_any _ _).mono ?_; rintro e w' ⟨rfl, rfl⟩)
    generalize hW0 : ((((((w.alloc (.cells #[.slice none 0 0] 29)).alloc (.cells #[.bool false] 4)).alloc (.cells #[.slice none 0 0] 29)).alloc (.cells #[.string ⟨l.toArray⟩] 9)).alloc (.cells #[.string ⟨#[32]⟩] 9)).alloc (.cells #[.int .i64 0] 3)) = W0
    have hs0 : W0.heap.size = w.heap.size + 6 := by rw [← hW0]; simp
    have hat : ∀ (W : World) (o : Obj) (k : Nat), k < W.heap.size → (W.alloc o).heap[k]? = W.heap[k]? := fun W o k hk => heap_past W o k hk
    have b0 : Boxed W0 w.heap.size 29 (.slice none 0 0) := by
      rw [← hW0]; show _ = _
      rw [hat _ _ _ (by simp <;> omega), hat _ _ _ (by simp <;> omega), hat _ _ _ (by simp <;> omega), hat _ _ _ (by simp <;> omega), hat _ _ _ (by simp), heap_at _ _ _ rfl]
    have b1 : Boxed W0 (w.heap.size + 1) 4 (.bool false) := by
      rw [← hW0]; show _ = _
      rw [hat _ _ _ (by simp <;> omega), hat _ _ _ (by simp <;> omega), hat _ _ _ (by simp <;> omega), hat _ _ _ (by simp), heap_at _ _ _ (by simp)]
    have b2 : Boxed W0 (w.heap.size + 2) 29 (.slice none 0 0) := by
      rw [← hW0]; show _ = _
      rw [hat _ _ _ (by simp <;> omega), hat _ _ _ (by simp <;> omega), hat _ _ _ (by simp), heap_at _ _ _ (by simp)]
    have b3 : Boxed W0 (w.heap.size + 3) 9 (.string ⟨l.toArray⟩) := by
      rw [← hW0]; show _ = _
      rw [hat _ _ _ (by simp <;> omega), hat _ _ _ (by simp), heap_at _ _ _ (by simp)]
    have b4 : Boxed W0 (w.heap.size + 4) 9 (.string ⟨#[32]⟩) := by
      rw [← hW0]; show _ = _
      rw [hat _ _ _ (by simp), heap_at _ _ _ (by simp)]
    have b5 : Boxed W0 (w.heap.size + 5) 3 (.int .i64 0) := by
      rw [← hW0]; show _ = _
      rw [heap_at _ _ _ (by simp)]
    have bb : Below w.heap.size w W0 := by
      rw [← hW0]
      exact ((((((Below.refl _ _).alloc (Nat.le_refl _) _).alloc (by simp) _).alloc (by simp <;> omega) _).alloc (by simp <;> omega) _).alloc (by simp <;> omega) _).alloc (by simp <;> omega) _
    have hI0 : RowI w w.heap.size mx (l.length + 1) [] W0 := ⟨[], .slice none 0 0, ⟨rfl, rfl, Nat.zero_le _⟩, b2, World.ownsRow_nil _ _ _ _, b0, b1, b4, b5, (bb.cell (p := ⟨1, 0, none⟩) hgm).trans HM.out, bb, by omega⟩
    have HI0 := Lib.hid hI0
    have HB3 := Lib.hid b3
    clear hI0 b0 b1 b2 b3 b4 b5 bb hat hW0
    refine (wpIn_wide (n := 9)).1 ?_
    refine range_s (F := Fence.wide) (n := 9) rfl (by omega) (gf := 60) (lb := #[.pointer (some ⟨w.heap.size + 4, 0, none⟩), .pointer (some ⟨w.heap.size + 3, 0, none⟩), .pointer (some ⟨w.heap.size + 5, 0, none⟩)]) rfl trivial (enters_of Tryd.func60 (by kernel_rfl) rfl) (fun _ => rfl) (w.heap.size + 3) (by omega)
      (SepAt (w.heap.size + 4) (w.heap.size + 5) mx) (fun pre x => ∃ post, spl 32 l = pre ++ x :: post) (fun xs => xs = spl 32 l) (split_s mx l (by omega) (w.heap.size + 4) (w.heap.size + 3) (w.heap.size + 5) W0 HB3.out)
      (RowI w w.heap.size mx (l.length + 1)) (RowX w w.heap.size l) (RowI.own w _ mx _ _ (by omega)) (RowX.own w _ l _ (by omega)) (fun pre W v h => h.set hgm v) (fun pre W h => h.sep) HI0.out
      (fun x => { tmps := #[.string ⟨l.toArray⟩, undef, .pointer (some ⟨w.heap.size, 0, none⟩), .pointer (some ⟨w.heap.size + 1, 0, none⟩), .pointer (some ⟨w.heap.size + 2, 0, none⟩), .string ⟨x.toArray⟩, undef, undef, .string ⟨l.toArray⟩, .bool false, .string ⟨l.toArray⟩, .func (.func 60) #[] #[.pointer (some ⟨w.heap.size + 4, 0, none⟩), .pointer (some ⟨w.heap.size + 3, 0, none⟩), .pointer (some ⟨w.heap.size + 5, 0, none⟩)], .string ⟨x.toArray⟩, undef, undef, undef, undef, undef, undef, undef, undef, undef, undef, undef, undef], defers := [] }) ?assign ?body ?done ?stop
    case assign =>
      intro lo x W K hK
      gi_wp2
      exact hK
    case body =>
      rintro lo pre x W ⟨post, hpost⟩ hJ
      obtain ⟨hp1, hp2⟩ := spl_bound hpost
      have hJ' := hJ
      obtain ⟨ts, v, h0, h1, h2, h3, h4, h5, h6, h7, h8, h9⟩ := hJ'
      have HTX := Lib.hid (fun W => text_any x (by omega) W)
      obtain ⟨q, hq⟩ : ∃ q, q = textC x := ⟨_, rfl⟩
      rw [← hq] at HTX
      have HPO := Lib.hid hpost
      have HJ := Lib.hid hJ
      have hts := h0.2.1
      have hW9 : w.heap.size + 6 ≤ W.heap.size := h9
      have H0 := Lib.hid h0
      clear hJ hpost h0 h1 h2 h3 h4 h5 h6 h7 h8 h9
      cases q with
      | none =>
        have HQ := Lib.hid hq
        clear hq
        gi_wp2_with (first | (refine ⟨trivial, ?_⟩; gi_at_call 15; refine (CallsIn.inRound lo (callsIn_wide.2 (HTX.out _))).mono ?_; rintro e W1 ⟨rfl, hb1⟩; obtain ⟨ts2, v2, g0, g1, g2, g3, g4, g5, g6, g7, g8, g9⟩ := HJ.out.below hb1; have c3 := g3.cell; have f3 := g3.frozen; have c4 := g4.cell; have f4 := g4.frozen; have G3 := Lib.hid g3; have G4 := Lib.hid g4; have G8 := Lib.hid g8; have HB1 := Lib.hid hb1; clear g0 g1 g2 g3 g4 g5 g6 g7 g8 hb1))
        refine ⟨(keeps_below HB1.out).trans (((KeepsOthers.setCell _ _ _).trans (KeepsOthers.setCell _ _ _)).from _), ?_, boxed_far (G3.out.set _) _ (by omega), (boxed_far G4.out _ (by omega)).set _, (G8.out.setCell (p := ⟨w.heap.size, 0, none⟩) (Nat.le_refl _) _).setCell (p := ⟨w.heap.size + 1, 0, none⟩) (by show w.heap.size ≤ w.heap.size + 1; omega) _, by simp [World.setCell]; omega⟩
        rw [HPO.out]
        exact texts_none HQ.out.symm pre post
      | some t =>
        have HQ := Lib.hid hq
        clear hq
        obtain ⟨i0, hi, hz0, hz1, hz2⟩ := info_parts Tryd.infoStr
        gi_wp2_with (first
          | (refine ⟨trivial, ?_⟩; gi_at_call 15; refine (CallsIn.inRound lo (callsIn_wide.2 (HTX.out _))).mono ?_; rintro e W1 ⟨rfl, hb1⟩; obtain ⟨ts2, v2, g0, g1, g2, g3, g4, g5, g6, g7, g8, g9⟩ := HJ.out.below hb1; have c1 := g1.cell; have G0 := Lib.hid g0; have G1 := Lib.hid g1; have G2 := Lib.hid g2; have G3 := Lib.hid g3; have G4 := Lib.hid g4; have G5 := Lib.hid g5; have G6 := Lib.hid g6; have G7 := Lib.hid g7; have G8 := Lib.hid g8; have HB1 := Lib.hid hb1; have hl2 := Nat.le_of_eq g0.2.1; have hl3 := g0.2.2; clear g0 g1 g2 g3 g4 g5 g6 g7 g8 hb1)
          | (gi_at_builtin; refine wpListIn_append_own _ rfl _ _ 29 rfl (w.heap.size + 6) 9 i0 (.string ⟨#[]⟩) 1 16 Tryd.underlying29 hi hz0 hz1 hz2 rfl (by decide) _ _ _ rfl (G2.out.alloc _) ⟨W1.heap.size, 0, none⟩ 1 1 [.string ⟨t.toArray⟩] rfl rfl (cell_one_new _ _ _) (by simp [Value.oneCell']) (by unfold maxLen; omega) (by omega) (by simp; omega) ?_; intro v' w1 hown' hgrow _; obtain ⟨g', cap', rfl⟩ := ownsRow_succ hown'; obtain ⟨hv1, hI2, hKF, hB3⟩ := RowI.push (N := l.length + 1) ⟨G0.out.1, G0.out.2.1, by omega⟩ HQ.out.symm G1.out G2.out G3.out G4.out G5.out G6.out G7.out G8.out g9 hgm hown' hgrow; have hc1 := hv1.cell; have hf1 := hv1.frozen; have HI2 := Lib.hid hI2; have HKF := Lib.hid hKF; have HB3 := Lib.hid hB3; clear hv1 hI2 hKF hB3 hown' hgrow))
        exact ⟨(keeps_below HB1.out).trans (HKF.out _), HB3.out.trans (HB1.out.block _ (by omega)), HI2.out⟩
    case done =>
      rintro D xs W hD rfl hJ hK
      obtain ⟨ts, v, h0, h1, h2, h3, h4, h5, h6, h7, h8, h9⟩ := hJ
      have hR : rowC l = some ts := by unfold rowC; rw [if_neg HL0.out]; exact h0.1
      have c1 := h1.cell
      have c3 := h3.cell
      have f3 := h3.frozen
      have c4 := h4.cell
      have f4 := h4.frozen
      have HR := Lib.hid hR
      have H2 := Lib.hid h2
      have H3 := Lib.hid h3
      have H4 := Lib.hid h4
      have H8 := Lib.hid h8
      have HK := Lib.hid hK
      obtain ⟨va, vc, rfl⟩ := own_slice h2
      clear hR h0 h1 h2 h3 h4 h5 h6 h7 h8 hK
      go_wp2
      have hKw := ((KeepsOthers.setCell W ⟨w.heap.size, 0, none⟩ (.slice va ts.length vc)).trans (KeepsOthers.setCell _ ⟨w.heap.size + 1, 0, none⟩ (.bool true))).same D _ HK.out rfl
      have k3 := cell_grown (boxed_far (H3.out.set (.slice va ts.length vc)) (.bool true) (by omega : w.heap.size ≠ w.heap.size + 1)).cell (grownBy_putObj' _ D (.deferred none)) (fun r e => by cases e; exact ⟨_, hKw, rfl⟩)
      have k4 := cell_grown ((boxed_far H4.out (.slice va ts.length vc) (by omega : w.heap.size + 1 ≠ w.heap.size)).set (.bool true)).cell (grownBy_putObj' _ D (.deferred none)) (fun r e => by cases e; exact ⟨_, hKw, rfl⟩)
      have hown := ownsRow_putObj (ownsRow_setCell_below (ownsRow_setCell_below H2.out (a := ⟨w.heap.size, 0, none⟩) (by show w.heap.size < w.heap.size + 6; omega) (.slice va ts.length vc)) (a := ⟨w.heap.size + 1, 0, none⟩) (by show w.heap.size + 1 < w.heap.size + 6; omega) (.bool true)) (.deferred none) hKw rfl
      have hbel := (H8.out.setCell (p := ⟨w.heap.size, 0, none⟩) (Nat.le_refl _) (.slice va ts.length vc)).setCell (p := ⟨w.heap.size + 1, 0, none⟩) (by show w.heap.size ≤ w.heap.size + 1; omega) (.bool true)
      refine ⟨by simp, .inl ⟨_, _, rfl, run_takeDeferred hKw, ?_⟩⟩
      rw [HR.out]
      refine ⟨.tuple #[.slice va ts.length vc, .bool true], (by simp [results, Tryd.results25, go_sem, k3, k4]), ⟨_, rfl, ownsRow_mono hown (by omega)⟩, ?_⟩
      exact hbel.trans (belowK_b (w := W0) (by omega) _ D _ _ hD hKw rfl rfl)
    case stop =>
      rintro D W hD ⟨h2, h3, h4, h8, h9⟩ hK
      have hR : rowC l = none := by unfold rowC; rw [if_neg HL0.out]; exact h2
      have c3 := h3.cell
      have c4 := h4.cell
      have HR := Lib.hid hR
      have H8 := Lib.hid h8
      have HK := Lib.hid hK
      clear hR h2 h3 h4 h8 hK
      gi_wp2
      refine ⟨by simp, .inl ⟨_, _, rfl, run_takeDeferred HK.out, ?_⟩⟩
      have k3 := cell_grown c3 (grownBy_putObj' W D (.deferred none)) (fun r e => by cases e; exact ⟨_, HK.out, rfl⟩)
      have k4 := cell_grown c4 (grownBy_putObj' W D (.deferred none)) (fun r e => by cases e; exact ⟨_, HK.out, rfl⟩)
      rw [HR.out]
      refine ⟨.tuple #[.slice none 0 0, .bool false], (by simp [results, Tryd.results25, go_sem, k3, k4]), ⟨_, rfl, World.ownsRow_nil _ _ _ _⟩, ?_⟩
      exact H8.out.trans (belowK_b (w := W0) (by omega) W D _ _ hD HK.out rfl rfl)
end Go.Proofs.YtipnoeffahnfaaaDoor

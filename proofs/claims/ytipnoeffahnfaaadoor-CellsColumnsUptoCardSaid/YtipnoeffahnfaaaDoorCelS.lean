/- A range over a function whose closure keeps a variable of its own in a cell (strings.SplitSeq): the statement's law, and the iterator's contract. -/
import Derived.Test.YtipnoeffahnfaaaDoorCelB
import Derived.RangeFuncNested
import Derived.RangeFuncBound
import Derived.RangeFuncCalls
import Derived.RangeFuncLeaves
import Derived.RangeFuncWrites
import Derived.RangeFuncBox
import Derived.Shelf.Abstract
import Derived.OwnWalkIn
import Derived.TacticsInMore
import Derived.LoopNIn
import Derived.LoopIn
namespace Go.Proofs.YtipnoeffahnfaaaDoor
set_option linter.unusedVariables false
set_option linter.unusedSimpArgs false
open Go.RowKit Go.Shelf
attribute [local go_sem] Oper.semAt_some

/-- How a round may be left: off its end, or by a return. -/
def roundS {α : Type} (B Bs : Nat) (I : List α → World → Prop) (Ix : World → Prop) (xs : List α) (W : World) : Exit → Act → World → Prop
  | .normal, _, W' => KeepsFrom B W W' ∧ W'.heap[Bs]? = W.heap[Bs]? ∧ I xs W'
  | .ret, _, W' => KeepsFrom B W W' ∧ Ix W'
  | _, _, _ => False
/-- What an iterator with one cell of its own (block Bs) owes: it may store there, for every invariant that minds no such store. -/
def SeqS {α : Type} (F : Fence) (n : Nat) (P : Program) (gf : Nat) (lb : Array Value) (encs : α → Array Value) (Bs : Nat) (R0 : World → Prop) (Pr : List α → α → Prop) (S : List α → Prop) (w : World) : Prop :=
  ∀ (l : Nat) (J : List α → World → Prop) (Jx : World → Prop) (W : World), w.heap.size ≤ W.heap.size → W.heap[Bs]? = w.heap[Bs]? →
    (∀ pre W1 v, J pre W1 → J pre (W1.setCell ⟨Bs, 0, none⟩ v)) → (∀ pre W1, J pre W1 → R0 W1) →
    (∀ pre x W1, Pr pre x → J pre W1 → YieldAt F (n - 1) P l (encs x) W1 fun e W' => (e = .returned (.bool true) ∧ J (pre ++ [x]) W' ∧ W'.heap[Bs]? = W1.heap[Bs]?) ∨ (e = .returned (.bool false) ∧ Jx W')) →
    J [] W → CallsIn F n P gf (#[.func (.yield l) #[] #[]] ++ lb) W fun e W' => (∃ v, e = .returned v) ∧ ((∃ xs, S xs ∧ J xs W') ∨ Jx W')
theorem range_s {α : Type} {F : Fence} {n : Nat} {P : Program} {g : Operand} {ps : Array Tmp} {assign body : Code} {Q : Exit → Act → World → Prop} {a : Act} {w : World}
    (hro : F.round = none) (h1 : 1 ≤ n) {gf : Nat} {lb : Array Value} (hg : a.eval g = .func (.func gf) #[] lb) (hFg : F.fn gf) (eg : ∀ args w, (callFunc gf args).run P w = .ok (.enter gf args) w)
    {encs : α → Array Value} (hps : ∀ x, (encs x).size = ps.size) (Bs : Nat) (hBs : Bs < w.heap.size) (R0 : World → Prop) (Pr : List α → α → Prop) (S : List α → Prop) (hseq : SeqS F (n - 1) P gf lb encs Bs R0 Pr S w)
    (I : List α → World → Prop) (Ix : World → Prop) (hI : OwnFrom w.heap.size I) (hIx : OwnFrom w.heap.size (fun (_ : Unit) W => Ix W))
    (hIs : ∀ pre W v, I pre W → I pre (W.setCell ⟨Bs, 0, none⟩ v)) (hR : ∀ pre W, I pre W → R0 W) (h0 : I [] w) (a₁ : α → Act)
    (hassign : ∀ (l : Nat) (x : α) (W : World) (K : Act → World → Prop), K (a₁ x) W →
      assign.wpIn (F.inRound l) (n - 1 - 1) P (Exit.then K (fun _ _ _ => False)) { tmps := (ps.zip (encs x)).foldl (fun t (p, v) => t.setIfInBounds p v) a.tmps, defers := [] } W)
    (hbody : ∀ (l : Nat) (pre : List α) (x : α) (W : World), Pr pre x → I pre W → body.wpIn (F.inRound l) (n - 1 - 1) P (roundS w.heap.size Bs I Ix (pre ++ [x]) W) (a₁ x) W)
    (hdone : ∀ (D : Nat) (xs : List α) (W : World), w.heap.size ≤ D → S xs → I xs W → W.heap[D]? = some (.deferred (some [])) → Q .normal { a with defers := { target := .collected D, args := #[] } :: a.defers } W)
    (hstop : ∀ (D : Nat) (W : World), w.heap.size ≤ D → Ix W → W.heap[D]? = some (.deferred (some [])) → Code.ret.wpIn F n P Q { a with defers := { target := .collected D, args := #[] } :: a.defers } W) :
    (Code.rangeFunc g ps assign body).wpIn F n P Q a w := by
  refine wpIn_rangeFunc (fun fn hfn => ?_)
  rw [hro]
  -- the record of the loop, by its state and the jump that waits
  obtain ⟨R, hRd⟩ : ∃ R : LoopState → Option Code → Loop, R = fun s j => { state := s, pending := j, fn := fn, tmps := a.tmps, params := ps, assign := assign, body := body, defers := w.heap.size } := ⟨_, rfl⟩
  have hput : ∀ {pre W k o} (o' : Obj), I pre W → w.heap.size ≤ k → W.heap[k]? = some o → o.isCells = false → I pre (W.putObj k o') := fun o' h hk ho hc => hI.putObj o' h hk ho hc
  obtain ⟨W1, hW1⟩ : ∃ W1, W1 = (w.alloc (.deferred (some []))).alloc (.loop (R .ready none)) := ⟨_, rfl⟩
  have e1 : W1.heap[w.heap.size + 1]? = some (.loop (R .ready none)) := by rw [hW1]; exact heap_at _ _ _ (by simp)
  have e0 : W1.heap[w.heap.size]? = some (.deferred (some [])) := by rw [hW1, heap_past _ _ _ (by simp)]; exact heap_at _ _ _ rfl
  have eB : W1.heap[Bs]? = w.heap[Bs]? := by rw [hW1, heap_past _ _ _ (by simp; omega), heap_past _ _ _ hBs]
  have i1 : I [] W1 := by rw [hW1]; exact hI.alloc _ (hI.alloc _ h0)
  refine ⟨w.heap.size + 1, [{ target := .collected w.heap.size, args := #[] }], W1, { target := .fn (.func gf) lb, args := #[.func (.yield (w.heap.size + 1)) #[] #[]] }, W1, gf, #[.func (.yield (w.heap.size + 1)) #[] #[]] ++ lb, W1, ?_, ?_, ?_, ?_, fun _ => h1, ?_⟩
  · rw [hW1, hRd]; exact run_enterLoop_outer _ _ _ _ _
  · simp only [resolve, hg]; simp [go_sem]
  · intro f' hf'; simp [Target.leads] at hf'; subst hf'; exact hFg
  · simp [invoke, go_sem, eg]
  refine (hseq (w.heap.size + 1)
    (fun pre W => I pre W ∧ W.heap[w.heap.size + 1]? = some (.loop (R .ready none)) ∧ W.heap[w.heap.size]? = some (.deferred (some [])))
    (fun W => Ix W ∧ W.heap[w.heap.size + 1]? = some (.loop (R .done (some .ret))) ∧ W.heap[w.heap.size]? = some (.deferred (some [])))
    W1 (by rw [hW1]; simp; omega) eB
    (fun pre W v ⟨x1, x2, x3⟩ => ⟨hIs pre W v x1, (Below.heap_setCell W ⟨Bs, 0, none⟩ v _ (by show w.heap.size + 1 ≠ Bs; omega)).trans x2, (Below.heap_setCell W ⟨Bs, 0, none⟩ v _ (by show w.heap.size ≠ Bs; omega)).trans x3⟩)
    (fun pre W h => hR pre W h.1) ?_ ⟨i1, e1, e0⟩).mono ?_
  · rintro pre x W hpr ⟨x1, x2, x3⟩
    have hlt := (Array.getElem?_eq_some_iff.1 x2).1
    have hy := run_yield (P := P) (args := encs x) x2 (by rw [hRd]; exact hps x)
    rw [hRd] at hy
    refine ⟨fn, _, assign, body, hy, roundIn_of_wpIn hfn (hassign _ x W _ ⟨_, run_beginRound x2 (by rw [hRd]), ?_⟩)⟩
    obtain ⟨Wb, hWb⟩ : ∃ Wb, Wb = W.putObj (w.heap.size + 1) (.loop { R .ready none with state := .busy }) := ⟨_, rfl⟩
    rw [← hWb]
    have y2 : Wb.heap[w.heap.size + 1]? = some (.loop { R .ready none with state := .busy }) := by rw [hWb]; exact World.putObj_heap_same hlt
    have y3 : Wb.heap[w.heap.size]? = some (.deferred (some [])) := by rw [hWb]; exact (World.putObj_heap_other (by omega)).trans x3
    have y1 : I pre Wb := by rw [hWb]; exact hput _ x1 (by omega) x2 rfl
    have yB : Wb.heap[Bs]? = W.heap[Bs]? := by rw [hWb]; exact World.putObj_heap_other (by omega)
    refine wpIn_mono (hbody _ pre x Wb hpr y1) ?_
    -- what the round's end makes of the record
    have fin : ∀ (j : Option Code) (W3 : World), KeepsFrom w.heap.size Wb W3 → ∃ W4, W4 = W3.putObj (w.heap.size + 1) (.loop (R (if j.isNone then .ready else .done) j)) ∧ (Instr.endRound (w.heap.size + 1) j).run P W3 = .ok (.bool j.isNone) W4 ∧ W3.heap[w.heap.size + 1]? = some (.loop { R .ready none with state := .busy }) ∧
        W4.heap[w.heap.size + 1]? = some (.loop (R (if j.isNone then .ready else .done) j)) ∧ W4.heap[w.heap.size]? = some (.deferred (some [])) ∧ W4.heap[Bs]? = W3.heap[Bs]? := fun j W3 hk => by
      have z2 := hk.same _ _ (by omega) y2 rfl
      have z3 := hk.same _ _ (Nat.le_refl _) y3 rfl
      refine ⟨_, rfl, ?_, z2, World.putObj_heap_same (Array.getElem?_eq_some_iff.1 z2).1, (World.putObj_heap_other (by omega)).trans z3, World.putObj_heap_other (by omega)⟩
      have := run_endRound (P := P) j z2
      rw [hRd] at this ⊢
      exact this
    rintro e a3 W3 hp
    cases e with
    | normal =>
      obtain ⟨p1, p2, p3⟩ := hp
      obtain ⟨W4, rfl, f1, f2, f3, f4, f5⟩ := fin none W3 p1
      exact ⟨_, _, f1, .inl ⟨rfl, ⟨hput _ p3 (by omega) f2 rfl, f3, f4⟩, f5.trans (p2.trans yB)⟩⟩
    | ret =>
      obtain ⟨p1, p2⟩ := hp
      obtain ⟨W4, rfl, f1, f2, f3, f4, f5⟩ := fin (some .ret) W3 p1
      exact ⟨_, _, f1, .inr ⟨rfl, hIx.putObj (s := ()) _ p2 (by omega) f2 rfl, f3, f4⟩⟩
    | exit id => exact hp.elim
    | goto t => exact hp.elim
    | panic ch => exact hp.elim
    | outgrown => exact hp.elim
  · rintro e W2 ⟨⟨v, rfl⟩, (⟨xs, hS, x1, x2, x3⟩ | ⟨x1, x2, x3⟩)⟩
    · refine ⟨none, _, (by have := run_endLoop (P := P) x2 (by rw [hRd]; simp); rw [hRd] at this; exact this), ?_⟩
      exact hdone _ xs _ (Nat.le_refl _) hS (hput _ x1 (by omega) x2 rfl) ((World.putObj_heap_other (by omega)).trans x3)
    · refine ⟨some .ret, _, (by have := run_endLoop (P := P) x2 (by rw [hRd]; simp); rw [hRd] at this; exact this), ?_⟩
      exact hstop _ _ (Nat.le_refl _) (hIx.putObj (s := ()) _ x1 (by omega) x2 rfl) ((World.putObj_heap_other (by omega)).trans x3)
/-- Where a byte stands first. -/
theorem ix_spl (b : UInt8) : ∀ s : List UInt8, (Lib.index s [b] = -1 ∧ b ∉ s) ∨ (∃ p q, s = p ++ b :: q ∧ b ∉ p ∧ Lib.index s [b] = (p.length : Int))
  | [] => .inl ⟨rfl, by simp⟩
  | c :: r => by
    by_cases hc : c = b
    · subst hc
      refine .inr ⟨[], r, rfl, by simp, ?_⟩
      unfold Lib.index
      simp [List.isPrefixOf]
    · have hp : ([b] : List UInt8).isPrefixOf (c :: r) = false := by
        simp only [List.isPrefixOf, Bool.and_true, beq_eq_false_iff_ne, ne_eq]
        exact fun h => hc h.symm
      have hu : Lib.index (c :: r) [b] = if Lib.index r [b] == -1 then -1 else Lib.index r [b] + 1 := by
        conv => lhs; unfold Lib.index
        rw [hp]; rfl
      rcases ix_spl b r with ⟨h1, h2⟩ | ⟨p, q, h1, h2, h3⟩
      · refine .inl ⟨by rw [hu, h1]; rfl, ?_⟩
        intro h
        rcases List.mem_cons.1 h with h | h
        · exact hc h.symm
        · exact h2 h
      · refine .inr ⟨c :: p, q, by rw [h1]; rfl, ?_, ?_⟩
        · intro h
          rcases List.mem_cons.1 h with h | h
          · exact hc h.symm
          · exact h2 h
        · rw [hu, h3]
          have : ((p.length : Int) == -1) = false := beq_eq_false_iff_ne.2 (by omega)
          rw [this]; simp
/-- What the iterator reads beside its own variable: the separator, a nought, the search's bound. -/
def SepAt (Bp Bk : Nat) (mx : Int) (W : World) : Prop := W.cell? ⟨Bp, 0, none⟩ = some (.string ⟨#[32]⟩) ∧ W.cell? ⟨Bk, 0, none⟩ = some (.int .i64 0) ∧ W.cell? ⟨1, 0, none⟩ = some (.int .i64 mx)
def boxLen (Bs : Nat) (W : World) : Nat := match W.cell? ⟨Bs, 0, none⟩ with
  | some (.string s) => s.size
  | _ => 0
theorem index_32 (l : List UInt8) (hl : l.length ≤ 1000000000) (mx : Int) (W : World) (hm : W.cell? ⟨1, 0, none⟩ = some (.int .i64 mx)) :
    Calls Tryd.prog 62 #[.string ⟨l.toArray⟩, .string ⟨#[32]⟩] W fun e w' => e = .returned (.int .i64 (Lib.index l [32])) ∧ w' = W := by
  have h := Tryd.strings_Index ⟨l.toArray⟩ ⟨#[32]⟩ mx W (by show l.length < _; omega) hm
  exact h
theorem spl_len (b : UInt8) : ∀ s : List UInt8, (spl b s).length ≤ s.length + 1 ∧ ∀ p ∈ spl b s, p.length ≤ s.length
  | [] => by simp [spl]
  | c :: r => by
    obtain ⟨h1, h2⟩ := spl_len b r
    have hne := spl_ne b r
    unfold spl
    split
    · refine ⟨by simp; omega, fun p hp => ?_⟩
      rcases List.mem_cons.1 hp with h | h
      · rw [h]; simp
      · have := h2 p h; simp; omega
    · obtain ⟨p0, ps, hp⟩ := List.exists_cons_of_ne_nil hne
      rw [hp] at h1 h2 ⊢
      simp only []
      refine ⟨by simp at h1 ⊢; omega, fun p hp => ?_⟩
      rcases List.mem_cons.1 hp with h | h
      · rw [h]; have := h2 p0 (by simp); simp; omega
      · have := h2 p (by simp [h]); simp; omega
theorem spl_bound {s p : List UInt8} {pre ps : List (List UInt8)} (h : spl 32 s = pre ++ p :: ps) : pre.length ≤ s.length ∧ p.length ≤ s.length := by
  obtain ⟨h3, h4⟩ := spl_len 32 s
  rw [h] at h3 h4
  refine ⟨by simp at h3; omega, h4 p (by simp)⟩
set_option maxRecDepth 100000 in
set_option maxHeartbeats 2000000 in
theorem split_s (mx : Int) (s : List UInt8) (hs : s.length ≤ 1000000000) (Bp Bs Bk : Nat) (w : World) (hbox : w.heap[Bs]? = some (.cells #[.string ⟨s.toArray⟩] 9 (0, 0))) :
    SeqS Fence.wide 8 Tryd.prog 60 #[.pointer (some ⟨Bp, 0, none⟩), .pointer (some ⟨Bs, 0, none⟩), .pointer (some ⟨Bk, 0, none⟩)] (fun x : List UInt8 => #[.string ⟨x.toArray⟩]) Bs (SepAt Bp Bk mx) (fun pre x => ∃ post, spl 32 s = pre ++ x :: post) (fun xs => xs = spl 32 s) w := by
  intro l J Jx W hle hB hst hR hY h0
  have hbx : W.heap[Bs]? = some (.cells #[.string ⟨s.toArray⟩] 9 (0, 0)) := hB.trans hbox
  refine callsIn_of_wp Tryd.func60 rfl trivial ?_ rfl
  simp only [Tryd.ntmps60, List.size_toArray, List.length_cons, List.length_nil, Nat.reduceAdd, Nat.reduceSub, Array.replicate_succ, Array.replicate_zero, List.push_toArray, List.append_toArray, List.nil_append, List.cons_append]
  have HR0 := Lib.hid (hR _ _ h0)
  obtain ⟨c1, c2, c3⟩ := hR _ _ h0
  have HH := Lib.hid h0
  have HBX := Lib.hid hbx
  have HST := Lib.hid hst
  have HRR := Lib.hid hR
  have HYY := Lib.hid hY
  clear h0 hbx hst hR hY hB hbox
  have hbl : ∀ (W : World) (x : List UInt8), W.heap[Bs]? = some (.cells #[.string ⟨x.toArray⟩] 9 (0, 0)) → boxLen Bs W = x.length := fun W x h => by
    unfold boxLen; rw [Lib.cell_of_heap h]; rfl
  have HBL := Lib.hid hbl
  clear hbl
  gi_wp2
  gi_loopw [7] (fun _ wr => ∃ (pre : List (List UInt8)) (rest : List UInt8), Hid (rest.length ≤ s.length ∧ spl 32 s = pre ++ spl 32 rest) ∧ Hid (J pre wr) ∧ Hid (wr.heap[Bs]? = some (.cells #[.string ⟨rest.toArray⟩] 9 (0, 0)))) (fun _ wr => boxLen Bs wr)
  case atStart => exact ⟨[], s, Lib.hid ⟨Nat.le_refl _, rfl⟩, HH, HBX⟩
  case round =>
    obtain ⟨pre, rest, HI, HJ, HX⟩ := hrel
    have hcs : wr.cell? ⟨Bs, 0, none⟩ = some (.string ⟨rest.toArray⟩) := by rw [Lib.cell_of_heap HX.out]; rfl
    have hfz : wr.frozen? ⟨Bs, 0, none⟩ = false := Lib.frozen_of_heap HX.out 0
    obtain ⟨d1, d2, d3⟩ := HRR.out _ _ HJ.out
    have hrl := HI.out.1
    clear c1 c2 c3
    have HIX := Lib.hid (fun W h => index_32 rest (by omega) mx W h)
    obtain ⟨iv, hiv⟩ : ∃ iv, iv = Lib.index rest [32] := ⟨_, rfl⟩
    rw [← hiv] at HIX
    rcases ix_spl 32 rest with ⟨h1, h2⟩ | ⟨p, q, h1, h2, h3⟩
    · rw [h1] at hiv
      subst hiv
      obtain ⟨fn, tmps, assign, body, hy, hRn⟩ := HYY.out pre rest wr ⟨[], by rw [HI.out.2, spl_last 32 rest h2]⟩ HJ.out
      have HRN := Lib.hid hRn
      have HN := Lib.hid (spl_last 32 rest h2)
      clear h1 h2 hRn
      gi_wp2_with (first | (refine ⟨trivial, ?_⟩; gi_at_call 62; refine (callsIn_wide.2 (HIX.out _ (by assumption))).mono ?_; rintro e w' ⟨rfl, rfl⟩))
      refine HRN.out.mono ?_
      rintro e W3 (⟨rfl, hJ3, hk3⟩ | ⟨rfl, hJx3⟩)
      · have HJ3 := Lib.hid hJ3
        clear hJ3 hk3
        gi_wp2
        go_end0
        exact ⟨⟨_, rfl⟩, .inl ⟨_, by rw [HI.out.2, HN.out], HJ3.out⟩⟩
      · have HJ3 := Lib.hid hJx3
        clear hJx3
        gi_wp2
        go_end0
        exact ⟨⟨_, rfl⟩, .inr HJ3.out⟩
    · rw [h3] at hiv
      subst hiv
      subst h1
      have hpl : p.length + (q.length + 1) ≤ 1000000000 := by
        have := hrl; simp at this; omega
      clear hrl
      obtain ⟨fn, tmps, assign, body, hy, hRn⟩ := HYY.out pre p wr ⟨spl 32 q, by rw [HI.out.2, spl_cut 32 p q h2]⟩ HJ.out
      have HRN := Lib.hid hRn
      have HN := Lib.hid (spl_cut 32 p q h2)
      have he : (⟨(p ++ 32 :: q).toArray⟩ : ByteArray).extract 0 p.length = ⟨p.toArray⟩ := by rw [ext_list]; simp
      clear h2 h3 hRn
      gi_wp2_with (first | (refine ⟨trivial, ?_⟩; gi_at_call 62; refine (callsIn_wide.2 (HIX.out _ (by assumption))).mono ?_; rintro e w' ⟨rfl, rfl⟩))
      refine HRN.out.mono ?_
      rintro e W3 (⟨rfl, hJ3, hk3⟩ | ⟨rfl, hJx3⟩)
      · obtain ⟨g1, g2, g3⟩ := HRR.out _ _ hJ3
        have hX3 := hk3.trans HX.out
        have gcs : W3.cell? ⟨Bs, 0, none⟩ = some (.string ⟨(p ++ 32 :: q).toArray⟩) := by rw [Lib.cell_of_heap hX3]; rfl
        have gfz : W3.frozen? ⟨Bs, 0, none⟩ = false := Lib.frozen_of_heap hX3 0
        have HX3 := Lib.hid hX3
        have HJ3 := Lib.hid hJ3
        clear hJ3 hk3 hX3
        gi_wp2
        have he2 : (⟨(p ++ 32 :: q).toArray⟩ : ByteArray).extract (p.length + 1) (p.length + (q.length + 1)) = ⟨q.toArray⟩ := by
          rw [ext_list, ← List.drop_drop, List.drop_left]
          congr 1
          congr 1
          show List.take _ q = q
          exact List.take_of_length_le (by omega)
        rw [he2]
        have hX4 : (W3.setCell ⟨Bs, 0, none⟩ (.string ⟨q.toArray⟩)).heap[Bs]? = some (.cells #[.string ⟨q.toArray⟩] 9 (0, 0)) := by simp [World.setCell, Array.getElem?_modify, HX3.out]
        refine ⟨⟨pre ++ [p], q, Lib.hid ⟨by have := HI.out.1; simp at this; omega, by rw [HI.out.2, HN.out]; simp⟩, Lib.hid (HST.out _ _ _ HJ3.out), Lib.hid hX4⟩, ?_⟩
        rw [HBL.out _ _ hX4, HBL.out _ _ HX.out]
        simp; omega
      · have HJ3 := Lib.hid hJx3
        clear hJx3
        gi_wp2
        refine bodyPost_ret (results_none rfl _ _ _) rfl ?_
        exact ⟨⟨_, rfl⟩, .inr HJ3.out⟩
end Go.Proofs.YtipnoeffahnfaaaDoor

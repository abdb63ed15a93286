/- Contracts over this translation, plans' models: made. -/
import Derived.Test.YtkbamfiokhmpjaaGreatDoorXKdM17C
import Derived.Test.YtkbamfiokhmpjaaGreatDoorXKdx4
import Derived.BigRegion
import Derived.Deep.RegionLaw
import Derived.Deep.DeepCutAuto
import Derived.Deep.CutRange
import Derived.Deep.RegionHeld3
namespace Go.Proofs.YtkbamfiokhmpjaaGreatDoor
set_option linter.unusedVariables false
set_option linter.unusedSimpArgs false
open Go.RowKit Go.Proofs.YtkbamfiokhmpjaaGreatDoorX.Kd Go.Proofs.YtkbamfiokhmpjaaGreatDoorW.PrintWords Go.Proofs.YtkbamfiokhmpjaaGreatDoorW.PrintLast Go.Proofs.YtkbamfiokhmpjaaGreatDoorW.PrintMore
attribute [local go_sem] max2_int min2_int max_two min_two

/-- The sizes of a symbol and of a relocation, without and with an addend. -/
def sizesR (wide : Bool) : Int × Int × Int := if wide then (24, 16, 24) else (16, 8, 12)
set_option maxRecDepth 100000 in
theorem sizes_f (wide : Bool) : graverref13_Sizes.f 60 wide = some (sizesR wide) := by
  cases wide <;> kernel_rfl
theorem sizes_any (wide : Bool) (w : World) :
    Calls Tryz.prog 11 #[.bool wide] w fun e w' => e = .returned (.tuple #[.int .u64 (sizesR wide).1, .int .u64 (sizesR wide).2.1, .int .u64 (sizesR wide).2.2]) ∧ Below w.heap.size w w' :=
  graverref13_Sizes.calls 60 wide _ _ _ w (sizes_f wide)

def strtabS : S54 := { z54 with f0 := ⟨#[46, 115, 116, 114, 116, 97, 98]⟩, f1 := 3 }
def symtabS (link locals size : Int) (l : List S56) : S54 := { z54 with f0 := ⟨#[46, 115, 121, 109, 116, 97, 98]⟩, f1 := 2, f4 := link, f5 := locals, f6 := 8, f7 := size, f10 := l }
def relocR (isA : Bool) (n : Int) (r : S72) : S74 := ⟨IntKind.u64.wrap (bits .and .i64 r.f0 65535), Int.tmod (IntKind.u64.wrap (bits .and .i64 r.f1 255)) n, IntKind.u64.wrap (bits .and .i64 r.f0 15), if isA then IntKind.u64.wrap (bits .and .i64 r.f2 65535) else 0⟩
def relS (isA : Bool) (table target rel rela n : Int) (rs : List S72) : S54 := { z54 with f0 := ⟨#[46, 114, 101, 108]⟩, f1 := if isA then 4 else 9, f4 := table, f5 := target, f7 := if isA then rela else rel, f11 := (rs.take 6).map (relocR isA n) }
def groupS (table n target : Int) : S54 := { z54 with f0 := ⟨#[46, 103, 114, 111, 117, 112]⟩, f1 := 17, f4 := table, f5 := n - 1, f7 := 4, f12 := [1, target] }
def indicesS (table : Int) : S54 := { z54 with f0 := ⟨#[46, 105, 110, 100, 105, 99, 101, 115]⟩, f1 := 18, f4 := table, f7 := 4 }
def flagB (fl b : Int) : Bool := bits .and .i64 fl b == b
/-- What stands behind a plan's own sections, where it has symbols. -/
def moreSecs (fl : Int) (n : Nat) (ys : List S62) (rs : List S72) : List S54 :=
  let own := bits .and .i64 fl 4 == 0
  let table : Nat := n + (if own then 1 else 0)
  let l := symbolsR ys n
  let z := sizesR (flagB fl 2)
  (if own then [strtabS] else []) ++ [symtabS (if own then (n : Int) else 1) (locB ys n 2 : Nat) z.1 l]
    ++ (if 0 < rs.length then [relS (flagB fl 8) table ((n : Int) - 1) z.2.1 z.2.2 l.length rs] else [])
    ++ (if flagB fl 16 then [groupS table l.length ((n : Int) - 1)] else [])
    ++ (if flagB fl 32 then [indicesS table] else [])
def madeSecs (fl : Int) (ps : List S60) (ys : List S62) (rs : List S72) : List S54 :=
  sectionsR ps ++ (if 0 < ys.length then moreSecs fl (sectionsR ps).length ys rs else [])
def segR (i : Nat) (d : ByteArray) : S76 := ⟨1, 4 + i, 4096 * i, 0, 99, 4096, d.extract 0 (min d.size 40)⟩
def segsR (ds : List ByteArray) : List S76 := (ds.take 3).zipIdx.map fun p => segR p.2 p.1

/-- An append in a region that draws, as go_region_law wants it. -/
theorem append_law {P : Program} {ops : Array Oper} {o : Oper} {a : Act} {Q : Exit → Act → World → Prop} {Kc : Act → World → Prop} {α : Type} {E : Prop} (s x : Operand) (t : TypeId) (ho : o.op = .call { callee := .builtin .append, args := #[s, x], argTypes := #[t, t] }) (d : Kd α) {w0 W W' : World} (base : Nat) (e : TypeId) (z : Value) (bytes : Nat)
    (v : Value) (xs : List α) (p : α) (cs : List Value) (ok okp : Nat → Prop) (hW : W' = W.alloc (.cells cs.toArray e)) (hw : Region.wanted o (yielded ops a.tmps) = true)
    (ht : P.underlying t = some (.slice e)) (hinfo : (P.info? e).map (fun i => (i.zero, i.size, i.bytes)) = some (some z, d.sz, bytes)) (hz : z.cells.size = d.sz) (hs0 : 0 < d.sz) (hb0 : 0 < bytes)
    (hs : a.eval s = v) (hx : a.eval x = .slice (some ⟨W.heap.size, 0, none⟩) 1 1) (hp : d.M W base okp p cs) (hokp : ∀ k, okp k → ok k ∧ some k ≠ v.ownBlock) (hfresh : ∀ k, W.heap.size ≤ k → ok k)
    (HO : d.R e W base ok v xs) (HB : Below base w0 W) (hbase : base ≤ W.heap.size) (hl : (xs.length + 1) * bytes ≤ 140737488355328)
    (h : ∀ v1 w1, d.R e w1 base ok v1 (xs ++ [p]) → Below base w0 w1 → W.grownBy w1 v.ownBlock → (v1.ownBlock = v.ownBlock ∨ ∃ b, v1.ownBlock = some b ∧ W.heap.size ≤ b) → Kc (a.put o.dst v1) w1) :
    if Region.wanted o (yielded ops a.tmps) = true then Oper.wp P o a W' Kc Q else E := by
  subst hW
  have h0 := Kd.R_append_step (Q := Q) d (w0 := w0) base hw s x t e z bytes ho ht hinfo hz hs0 hb0 v xs p cs ok okp hs hx hp hokp hfresh HO HB hbase hl h
  rw [if_pos hw] at h0 ⊢
  exact h0
theorem infoSeg : (Tryz.prog.info? 76).map (fun i => (i.zero, i.size, i.bytes)) = some (some (.agg #[.int .u64 0, .int .u64 0, .int .u64 0, .int .u64 0, .int .u64 0, .int .u64 0, .string ⟨#[]⟩]), 7, 64) := by kernel_rfl
/-- A struct's cells stored one behind the other. -/
def putAll (w : World) (g : Nat) : Nat → List Value → World
  | _, [] => w
  | i, v :: r => putAll (w.setCell ⟨g, i, none⟩ v) g (i + 1) r
def setAll (cs : Array Value) : Nat → List Value → Array Value
  | _, [] => cs
  | i, v :: r => setAll (cs.setIfInBounds i v) (i + 1) r
theorem putAll_blk {g : Nat} {t : TypeId} : ∀ (vs : List Value) (i : Nat) (w : World) (cs : Array Value), w.heap[g]? = some (.cells cs t (0, 0)) → (putAll w g i vs).heap[g]? = some (.cells (setAll cs i vs) t (0, 0))
  | [], _, _, _, h => h
  | v :: r, i, w, cs, h => putAll_blk r (i + 1) _ _ (blk_set h i v)
theorem setAll_all (vs : List Value) : ∀ pre olds : List Value, olds.length = vs.length → setAll (pre ++ olds).toArray pre.length vs = (pre ++ vs).toArray := by
  induction vs with
  | nil => intro pre olds h; rw [List.length_eq_zero_iff.1 h]; rfl
  | cons v r ih =>
    intro pre olds h
    cases olds with
    | nil => cases h
    | cons o os =>
      have e : ((pre ++ o :: os).toArray).setIfInBounds pre.length v = ((pre ++ [v]) ++ os).toArray := by simp
      have h2 := ih (pre ++ [v]) os (by simpa using h)
      unfold setAll
      rw [e]
      simpa using h2
theorem putAll_new {g : Nat} {t : TypeId} {w : World} (olds vs : List Value) (h : w.heap[g]? = some (.cells olds.toArray t (0, 0))) (hl : olds.length = vs.length) : (putAll w g 0 vs).heap[g]? = some (.cells vs.toArray t (0, 0)) := by
  have h1 := putAll_blk vs 0 w _ h
  have h2 := setAll_all vs [] olds hl
  simp only [List.nil_append, List.length_nil] at h2
  rw [h2] at h1
  exact h1
theorem putAll_R {α : Type} {d : Kd α} {e base g : Nat} {v : Value} {xs : List α} : ∀ (vs : List Value) (i : Nat) (w : World), d.R e w base (fun k => k ≠ g) v xs → d.R e (putAll w g i vs) base (fun k => k ≠ g) v xs
  | [], _, _, h => h
  | u :: r, i, w, h => putAll_R r (i + 1) _ (Kd.R_far (p := ⟨g, i, none⟩) h (fun k hk => hk) u)
theorem putAll_below {b g : Nat} {w0 : World} (hg : b ≤ g) : ∀ (vs : List Value) (i : Nat) (w : World), Below b w0 w → Below b w0 (putAll w g i vs)
  | [], _, _, h => h
  | u :: r, i, w, h => putAll_below hg r (i + 1) _ (h.setCell (by exact hg) u)
theorem sizeModel : (Tryz.prog.info? 31).map (·.size) = some 11 := by kernel_rfl
/-- Where made stands: m its model's cell, v its sections. -/
def MSt (w0 wx : World) (m : Nat) (wide big : Bool) (PC RC : Array Value) (ok : Nat → Prop) (v : Value) (L : List S54) (vs : Value) : Prop :=
  wx.heap[m]? = some (.cells #[.bool wide, .bool big, .int .u8 3, .int .u8 0, .int .u64 1, .int .u64 243, .int .u64 16, .int .u64 5, .int .u64 1, v, vs] 31 (0, 0)) ∧
  Kd.R k54 54 wx w0.heap.size ok v L ∧ Below w0.heap.size w0 wx ∧
  wx.heap[w0.heap.size]? = some (.cells PC 38 (0, 0)) ∧ wx.heap[w0.heap.size + 1]? = some (.cells RC 31 (0, 0)) ∧ w0.heap.size + 2 ≤ m
theorem MSt.below {w0 wx wy : World} {m : Nat} {wide big : Bool} {PC RC : Array Value} {ok : Nat → Prop} {v vs : Value} {L : List S54} (h : MSt w0 wx m wide big PC RC ok v L vs) (hb : Below wx.heap.size wx wy) : MSt w0 wy m wide big PC RC ok v L vs :=
  ⟨blk_below h.1 hb, Kd.R_below h.2.1 hb, h.2.2.1.trans (hb.mono h.2.2.1.size), blk_below h.2.2.2.1 hb, blk_below h.2.2.2.2.1 hb, h.2.2.2.2.2⟩
theorem MSt.put {w0 wx w1 : World} {m : Nat} {wide big : Bool} {PC RC : Array Value} {ok ok' : Nat → Prop} {v v1 vs : Value} {L L1 : List S54} (h : MSt w0 wx m wide big PC RC ok v L vs) (hg : wx.grownBy w1 v.ownBlock) (hR : Kd.R k54 54 w1 w0.heap.size ok' v1 L1) (hb : Below w0.heap.size w0 w1) :
    MSt w0 (w1.setCell ⟨m, 9, none⟩ v1) m wide big PC RC ok' v1 L1 vs := by
  have hm := blk_grown h.1 hg (Kd.R_ne h.2.1 h.1 (by decide))
  refine ⟨blk_put hm 9 _ rfl, Kd.R_set hR hm (by decide) 9 v1, hb.setCell (by show w0.heap.size ≤ m; exact Nat.le_trans (by omega) h.2.2.2.2.2) _, blk_far (blk_grown h.2.2.2.1 hg (Kd.R_ne h.2.1 h.2.2.2.1 (by decide))) (by show w0.heap.size ≠ m; exact Nat.ne_of_lt (Nat.lt_of_lt_of_le (by omega) h.2.2.2.2.2)) _, blk_far (blk_grown h.2.2.2.2.1 hg (Kd.R_ne h.2.1 h.2.2.2.2.1 (by decide))) (by show w0.heap.size + 1 ≠ m; exact Nat.ne_of_lt (Nat.lt_of_lt_of_le (by omega) h.2.2.2.2.2)) _, h.2.2.2.2.2⟩
/-- .. a segment more. -/
theorem MSt.seg {w0 wx w1 : World} {m : Nat} {wide big : Bool} {PC RC : Array Value} {ok ok' : Nat → Prop} {v vs vs1 : Value} {L : List S54} {D D1 : List S76} (h : MSt w0 wx m wide big PC RC ok v L vs) (hD : Kd.R k76 76 wx w0.heap.size ok' vs D) (hg : wx.grownBy w1 vs.ownBlock) (hR : Kd.R k76 76 w1 w0.heap.size ok' vs1 D1) (hb : Below w0.heap.size w0 w1) :
    MSt w0 (w1.setCell ⟨m, 10, none⟩ vs1) m wide big PC RC ok v L vs1 ∧ Kd.R k76 76 (w1.setCell ⟨m, 10, none⟩ vs1) w0.heap.size ok' vs1 D1 := by
  have hm := blk_grown h.1 hg (Kd.R_ne hD h.1 (by decide))
  refine ⟨⟨blk_put hm 10 _ rfl, Kd.R_set (Kd.R_over' h.2.1 (Kd.R_typed hD) (by decide) hg) hm (by decide) 10 vs1, hb.setCell (by show w0.heap.size ≤ m; exact Nat.le_trans (by omega) h.2.2.2.2.2) _, blk_far (blk_grown h.2.2.2.1 hg (Kd.R_ne hD h.2.2.2.1 (by decide))) (by show w0.heap.size ≠ m; exact Nat.ne_of_lt (Nat.lt_of_lt_of_le (by omega) h.2.2.2.2.2)) _, blk_far (blk_grown h.2.2.2.2.1 hg (Kd.R_ne hD h.2.2.2.2.1 (by decide))) (by show w0.heap.size + 1 ≠ m; exact Nat.ne_of_lt (Nat.lt_of_lt_of_le (by omega) h.2.2.2.2.2)) _, h.2.2.2.2.2⟩, Kd.R_set hR hm (by decide) 10 vs1⟩
theorem segsR_len (k : Nat) (ds : List ByteArray) (h : k < ds.length) : (((ds.take (k + 1)).zipIdx.map fun p => segR p.2 p.1) : List S76) = ((ds.take k).zipIdx.map fun p => segR p.2 p.1) ++ [segR k ds[k]] := by
  rw [List.take_succ_eq_append_getElem h, List.zipIdx_append, List.map_append]
  simp [List.length_take, Nat.min_eq_left (Nat.le_of_lt h)]
theorem sectionsR_len (ps : List S60) : 2 ≤ (sectionsR ps).length ∧ (sectionsR ps).length ≤ 8 := by
  unfold sectionsR
  rw [List.length_append, List.length_map, List.length_take]
  simp only [List.length_cons, List.length_nil]
  omega
/-- Parts of a function's code. -/
def fstC : Code → Code
  | .seq a _ => a
  | c => c
def sndC : Code → Code
  | .seq _ b => b
  | c => c
def thenC : Code → Code
  | .cond _ a _ => a
  | c => c
def bodyC : Code → Code
  | .block _ c => bodyC c
  | .loop c => c
  | c => c
noncomputable def madeCode : Code := (Tryz.f5.body).getD .skip
/-- made behind the block of its symbols. -/
noncomputable def madeTail : Code := sndC (sndC (sndC (sndC (sndC (sndC madeCode)))))
end Go.Proofs.YtkbamfiokhmpjaaGreatDoor

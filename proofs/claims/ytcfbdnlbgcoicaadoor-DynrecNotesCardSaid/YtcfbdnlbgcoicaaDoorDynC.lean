/- Contracts over this translation: dynrec.Dynamic. -/
import Derived.Test.YtcfbdnlbgcoicaaDoorDynA
import Derived.Test.YtcfbdnlbgcoicaaDoorReader
namespace Go.Proofs.YtcfbdnlbgcoicaaDoor
set_option linter.unusedVariables false
set_option linter.unusedSimpArgs false
open Go.RowKit

theorem ownsRow_grown_at {w w' : World} {base : Nat} {e : TypeId} {size n b : Nat} {v : Value} {cs : List Value} (h : w.ownsRow base e size v n cs) (hg : w.grownBy w' (some b)) (hb : b < base) : w'.ownsRow base e size v n cs := by
  obtain ⟨hl, h | ⟨g, cap, cur, hv, hgb, hcur, hr⟩⟩ := h
  · exact ⟨hl, .inl h⟩
  · refine ⟨hl, .inr ⟨g, cap, cur, hv, hgb, ?_, hr⟩⟩
    rw [hg.block g _ (by intro h; injection h; omega)]; exact hcur
    rcases Nat.lt_or_ge g w.heap.size with hh | hh
    · exact hh
    · rw [Array.getElem?_eq_none hh] at hcur; cases hcur
theorem two_below {w w' : World} {B : Nat} {x y : Value} (h : w.cell? ⟨B, 0, none⟩ = some x ∧ w.cell? ⟨B, 1, none⟩ = some y) (hb : Below w.heap.size w w') : w'.cell? ⟨B, 0, none⟩ = some x ∧ w'.cell? ⟨B, 1, none⟩ = some y :=
  ⟨by rw [hb.cell (cell_lt h.1)]; exact h.1, by rw [hb.cell (cell_lt h.2)]; exact h.2⟩
theorem cell_grown {w w' : World} {b : Nat} {p : Addr} {x : Value} (h : w.cell? p = some x) (hg : w.grownBy w' (some b)) (hne : p.block ≠ b) : w'.cell? p = some x := by
  rw [← h]; exact World.cell?_of_block (w := w) (hg.block p.block (cell_lt h) (by intro h; injection h with h; exact hne h))
theorem two_grown {w w' : World} {B b : Nat} {x y : Value} (h : w.cell? ⟨B, 0, none⟩ = some x ∧ w.cell? ⟨B, 1, none⟩ = some y) (hg : w.grownBy w' (some b)) (hne : B ≠ b) : w'.cell? ⟨B, 0, none⟩ = some x ∧ w'.cell? ⟨B, 1, none⟩ = some y :=
  ⟨cell_grown h.1 hg hne, cell_grown h.2 hg hne⟩
theorem below_of_grown {B b : Nat} {w w' : World} (h : w.grownBy w' (some b)) (h1 : B ≤ b) (h2 : B ≤ w.heap.size) : Below B w w' := (Below.refl _ _).grown h h2 (fun k hk => by cases hk; exact h1)
theorem blk_below {w w' : World} {B : Nat} {o : Obj} (h : w.heap[B]? = some o) (hb : Below w.heap.size w w') : w'.heap[B]? = some o := by
  rw [hb.block B (by rcases Nat.lt_or_ge B w.heap.size with hh | hh
                     · exact hh
                     · rw [Array.getElem?_eq_none hh] at h; cases h)]; exact h
theorem blk_grown {w w' : World} {B b : Nat} {o : Obj} (h : w.heap[B]? = some o) (hg : w.grownBy w' (some b)) (hne : B ≠ b) : w'.heap[B]? = some o := by
  rw [hg.block B (by rcases Nat.lt_or_ge B w.heap.size with hh | hh
                     · exact hh
                     · rw [Array.getElem?_eq_none hh] at h; cases h) (by intro h; injection h with h; exact hne h)]; exact h
/-- A stage of a walk over a reader: where the reader stands, a pair of cells that stays, what else stays. -/
structure St (wr : World) (B rb : Nat) (x y : Value) (big : Bool) (l : List UInt8) (W : World) (at_ : Nat) (bad : Bool) : Prop where
  r : RdrAt W rb big l at_ bad
  c : W.cell? ⟨B, 0, none⟩ = some x ∧ W.cell? ⟨B, 1, none⟩ = some y
  g : wr.grownBy W (some rb)
  hn : B < rb
  hr : rb < wr.heap.size
section
variable {wr : World} {B rb : Nat} {x y : Value} {big : Bool} {l : List UInt8} {W W' : World} {at_ at' : Nat} {bad bad' : Bool}
theorem St.below (h : St wr B rb x y big l W at_ bad) (hb : Below W.heap.size W W') : St wr B rb x y big l W' at_ bad :=
  ⟨h.r.below hb, two_below h.c hb, grownBy_trans h.g (grownBy_below _ hb), h.hn, h.hr⟩
theorem St.alloc (h : St wr B rb x y big l W at_ bad) (o : Obj) : St wr B rb x y big l (W.alloc o) at_ bad := h.below ((Below.refl _ _).alloc (Nat.le_refl _) o)
theorem St.next (h : St wr B rb x y big l W at_ bad) (hr : RdrAt W' rb big l at' bad') (hg : W.grownBy W' (some rb)) : St wr B rb x y big l W' at' bad' :=
  ⟨hr, two_grown h.c hg (Nat.ne_of_lt h.hn), grownBy_trans h.g hg, h.hn, h.hr⟩
theorem St.size (h : St wr B rb x y big l W at_ bad) : wr.heap.size ≤ W.heap.size := h.g.size
theorem St.set (h : St wr B rb x y big l W at_ bad) {b : Nat} (hb : wr.heap.size ≤ b) (j : Nat) (u : Value) : St wr B rb x y big l (W.setCell ⟨b, j, none⟩ u) at_ bad := by
  have hrl := h.hr
  have hnl := h.hn
  refine ⟨?_, two_grown h.c (grownBy_setCell W ⟨b, j, none⟩ u) (by show B ≠ b; omega), ?_, h.hn, h.hr⟩
  · unfold RdrAt; rw [Below.heap_setCell _ _ _ _ (by show rb ≠ b; omega)]; exact h.r
  · refine ⟨h.g.os, h.g.tape, h.g.output, by have := h.g.size; simpa [World.setCell] using this, fun k hk hne => ?_⟩
    rw [Below.heap_setCell _ _ _ _ (by show k ≠ b; omega)]; exact h.g.block k hk hne
theorem St.set2 (h : St wr B rb x y big l W at_ bad) {b : Nat} (hb : wr.heap.size ≤ b) (u v : Value) : St wr B rb x y big l ((W.setCell ⟨b, 0, none⟩ u).setCell ⟨b, 1, none⟩ v) at_ bad := (h.set hb 0 u).set hb 1 v
theorem St.far (h : St wr B rb x y big l W at_ bad) {b : Nat} (hb : wr.heap.size ≤ b) : b ≠ rb := by have := h.hr; omega
end
theorem set2_cells {W : World} {b : Nat} {p q u v : Value} {T : TypeId} (h : W.heap[b]? = some (.cells #[p, q] T (0, 0))) :
    ((W.setCell ⟨b, 0, none⟩ u).setCell ⟨b, 1, none⟩ v).cell? ⟨b, 0, none⟩ = some u ∧ ((W.setCell ⟨b, 0, none⟩ u).setCell ⟨b, 1, none⟩ v).cell? ⟨b, 1, none⟩ = some v := by
  simp [World.cell?, World.setCell, Array.getElem?_modify, h]
theorem St.set2_all {wr : World} {B rb : Nat} {x y : Value} {big : Bool} {l : List UInt8} {W : World} {at_ : Nat} {bad : Bool} (h : St wr B rb x y big l W at_ bad) {b : Nat} {p q : Value} {T : TypeId} (xb : W.heap[b]? = some (.cells #[p, q] T (0, 0))) (hb : wr.heap.size ≤ b) (u v : Value) :
    ∃ wF, (W.setCell ⟨b, 0, none⟩ u).setCell ⟨b, 1, none⟩ v = wF ∧ St wr B rb x y big l wF at_ bad ∧ wF.cell? ⟨b, 0, none⟩ = some u ∧ wF.cell? ⟨b, 1, none⟩ = some v :=
  ⟨_, rfl, h.set2 hb u v, (set2_cells xb).1, (set2_cells xb).2⟩
theorem St.new2_all {wr : World} {B rb : Nat} {x y : Value} {big : Bool} {l : List UInt8} {W : World} {at_ : Nat} {bad : Bool} (h : St wr B rb x y big l W at_ bad) (u v : Value) (T : TypeId) :
    ∃ wF, W.alloc (.cells #[u, v] T) = wF ∧ St wr B rb x y big l wF at_ bad ∧ wF.cell? ⟨W.heap.size, 0, none⟩ = some u ∧ wF.cell? ⟨W.heap.size, 1, none⟩ = some v :=
  ⟨_, rfl, h.alloc _, by rw [World.cell?_alloc_new]; rfl, by rw [World.cell?_alloc_new]; rfl⟩
theorem word_b (big wide : Bool) (w : World) :
    Calls Tryd.prog 32 #[.agg #[.bool big, .bool wide]] w fun e w' => e = .returned (.int .i64 ((wordN wide : Nat) : Int)) ∧ Below w.heap.size w w' := by
  refine (word_any big wide w).mono ?_
  rintro e w' ⟨rfl, rfl⟩
  exact ⟨rfl, (Below.refl _ _).alloc (Nat.le_refl _) _⟩

/-- The entries up to the first one whose tag is 0. -/
def dynR (big : Bool) (n : Nat) : Nat → List UInt8 → Option (List (Nat × Nat))
  | 0, _ => none
  | f + 1, s => if s.length < 2 * n then none else if getL big (s.take n) = 0 then some [] else (dynR big n f (s.drop (2 * n))).map ((getL big (s.take n), getL big ((s.drop n).take n)) :: ·)
theorem rb_ok {l : List UInt8} {at_ n : Nat} (h : at_ + n ≤ l.length) : rbAt l at_ false n = at_ + n ∧ rbBad l at_ false n = false ∧ rbL l at_ false n = (l.drop at_).take n := ⟨if_pos ⟨rfl, h⟩, if_pos ⟨rfl, h⟩, if_pos ⟨rfl, h⟩⟩
theorem rb_no {l : List UInt8} {at_ n : Nat} (h : ¬ at_ + n ≤ l.length) : rbAt l at_ false n = at_ ∧ rbBad l at_ false n = true ∧ rbL l at_ false n = [] := ⟨if_neg (fun q => h q.2), if_neg (fun q => h q.2), if_neg (fun q => h q.2)⟩
theorem rb_bad (l : List UInt8) (at_ n : Nat) : rbAt l at_ true n = at_ ∧ rbBad l at_ true n = true ∧ rbL l at_ true n = [] := ⟨if_neg (by simp), if_neg (by simp), if_neg (by simp)⟩
theorem getL_lt8 (big : Bool) (l : List UInt8) (h : l.length ≤ 8) : getL big l < 18446744073709551616 := by
  refine Nat.lt_of_lt_of_le (getL_lt big l) ?_
  exact Nat.pow_le_pow_right (n := 256) (by decide) h
theorem dyn_step (big : Bool) (n : Nat) (hn8 : 1 ≤ n ∧ n ≤ 8) (l : List UInt8) (at_ : Nat) (hat : at_ ≤ l.length) (f : Nat) (pre : List (Nat × Nat)) (R : Option (List (Nat × Nat))) (hR : R = (dynR big n (f + 1) (l.drop at_)).map (pre ++ ·)) :
    rbBad l (rbAt l at_ false n) (rbBad l at_ false n) n = true ∧ R = none ∨
    rbBad l (rbAt l at_ false n) (rbBad l at_ false n) n = false ∧ rnV big l at_ false n < 18446744073709551616 ∧ rnV big l (rbAt l at_ false n) (rbBad l at_ false n) n < 18446744073709551616 ∧ rbAt l (rbAt l at_ false n) (rbBad l at_ false n) n = at_ + 2 * n ∧ rbAt l (rbAt l at_ false n) (rbBad l at_ false n) n ≤ l.length ∧
      (rnV big l at_ false n = 0 ∧ R = some pre ∨ rnV big l at_ false n ≠ 0 ∧ ∃ f', f + 1 = f' + 1 ∧ R = (dynR big n f' (l.drop (rbAt l (rbAt l at_ false n) (rbBad l at_ false n) n))).map ((pre ++ [(rnV big l at_ false n, rnV big l (rbAt l at_ false n) (rbBad l at_ false n) n)]) ++ ·)) := by
  have hb1 := getL_lt8 big (rbL l at_ false n) (Nat.le_trans (rbL_length _ _ _ _) hn8.2)
  have hb2 := getL_lt8 big (rbL l (rbAt l at_ false n) (rbBad l at_ false n) n) (Nat.le_trans (rbL_length _ _ _ _) hn8.2)
  unfold rnV
  by_cases h1 : at_ + n ≤ l.length
  · obtain ⟨e1, e2, e3⟩ := rb_ok h1
    rw [e1, e2, e3]
    rw [e1, e2] at hb2
    rw [e3] at hb1
    by_cases h2 : at_ + n + n ≤ l.length
    · obtain ⟨d1, d2, d3⟩ := rb_ok h2
      rw [d1, d2, d3]
      rw [d3] at hb2
      right
      refine ⟨rfl, hb1, hb2, by omega, h2, ?_⟩
      rw [dynR, if_neg (by rw [List.length_drop]; omega)] at hR
      rw [List.drop_drop, List.drop_drop] at hR
      by_cases h0 : getL big ((l.drop at_).take n) = 0
      · left
        rw [if_pos h0] at hR
        exact ⟨h0, by rw [hR]; simp⟩
      · right
        rw [if_neg h0] at hR
        refine ⟨h0, f, rfl, ?_⟩
        rw [hR, Option.map_map, show at_ + 2 * n = at_ + n + n by omega]
        congr 1
        funext z
        simp
    · obtain ⟨d1, d2, d3⟩ := rb_no h2
      rw [d2]
      left
      refine ⟨rfl, ?_⟩
      rw [hR, dynR, if_pos (by rw [List.length_drop]; omega)]; rfl
  · obtain ⟨e1, e2, e3⟩ := rb_no h1
    rw [e1, e2]
    obtain ⟨d1, d2, d3⟩ := rb_bad l at_ n
    rw [d2]
    left
    refine ⟨rfl, ?_⟩
    rw [hR, dynR, if_pos (by rw [List.length_drop]; omega)]; rfl
def slLen : Value → Nat
  | .slice _ n _ => n
  | _ => 0
def DynPost (w : World) (r : Option (List (Nat × Nat))) (e : Ending) (w' : World) : Prop :=
  match r with
  | none => e = .returned (.tuple #[.slice none 0 0, .int .i64 24]) ∧ Below w.heap.size w w'
  | some es => ∃ a c, e = .returned (.tuple #[.slice a es.length c, .int .i64 0]) ∧ Rd w' a (es.flatMap encE) ∧ Below w.heap.size w w'

theorem own_lower {w : World} {base base' : Nat} {e : TypeId} {size n : Nat} {v : Value} {xs : List Value} (h : w.ownsRow base e size v n xs) (hb : base' ≤ base) : w.ownsRow base' e size v n xs := by
  obtain ⟨h1, h2⟩ := h
  refine ⟨h1, ?_⟩
  rcases h2 with h2 | ⟨g, cap, cur, rfl, hg, r⟩
  · exact .inl h2
  · exact .inr ⟨g, cap, cur, rfl, Nat.le_trans hb hg, r⟩
def DynPostO (w : World) (r : Option (List (Nat × Nat))) (e : Ending) (w' : World) : Prop :=
  match r with
  | none => e = .returned (.tuple #[.slice none 0 0, .int .i64 24]) ∧ Below w.heap.size w w'
  | some es => ∃ a c, e = .returned (.tuple #[.slice a es.length c, .int .i64 0]) ∧ w'.ownsRow w.heap.size 51 2 (.slice a es.length c) es.length (es.flatMap encE) ∧ Below w.heap.size w w'

set_option maxHeartbeats 8000000 in
theorem dynamic_own (big wide : Bool) (l : List UInt8) (hl : l.length ≤ 100000) (w : World) :
    Calls Tryd.prog 14 #[.agg #[.bool big, .bool wide], .string ⟨l.toArray⟩] w (DynPostO w (dynR big (wordN wide) (l.length + 1) l)) := by
  obtain ⟨i0, hi, hz0, hz1, hz2⟩ := info_parts Tryd.infoEntry
  obtain ⟨R, hR⟩ : ∃ R, R = dynR big (wordN wide) (l.length + 1) l := ⟨_, rfl⟩
  rw [← hR]
  have HR := Lib.hid hR
  clear hR
  obtain ⟨n, hn⟩ : ∃ n, n = wordN wide := ⟨_, rfl⟩
  have hn8 : 1 ≤ n ∧ n ≤ 8 := by rw [hn]; unfold wordN; split <;> omega
  have HW := Lib.hid (fun W => word_b big wide W)
  rw [← hn] at HW HR
  clear hn
  have HI := Lib.hid (And.intro hi (And.intro hz0 (And.intro hz1 hz2)))
  clear hi hz0 hz1 hz2
  go_enter Tryd.func14, Tryd.ntmps14
  go_wp2_with (first
    | (go_at_call 25; refine (read_any big l 0 _).mono ?_; rintro e w' ⟨rfl, rfl⟩))
  go_loopw [6] (fun v wr => ∃ (at_ f : Nat) (pre : List (Nat × Nat)) (a : Option Addr) (c : Nat), v = .slice a pre.length c ∧ at_ ≤ l.length ∧ pre.length ≤ at_ ∧ l.length < at_ + f ∧ Hid (RdrAt wr (w.heap.size + 2) big l at_ false) ∧ Hid (wr.ownsRow (w.heap.size + 3) 51 2 v pre.length (pre.flatMap encE)) ∧ Hid (wr.cell? ⟨w.heap.size, 0, none⟩ = some (.bool big) ∧ wr.cell? ⟨w.heap.size, 1, none⟩ = some (.bool wide)) ∧ Hid (Below w.heap.size w wr) ∧ Hid (R = (dynR big n f (l.drop at_)).map (pre ++ ·))) (fun v wr => l.length - slLen v)
  case atStart =>
    refine ⟨0, l.length + 1, [], none, 0, rfl, Nat.zero_le _, Nat.le_refl _, by omega, Lib.hid ?_, Lib.hid (World.ownsRow_nil _ _ _ _), Lib.hid ?_, Lib.hid ?_, Lib.hid ?_⟩
    · unfold RdrAt; exact heap_at _ _ _ (by simp)
    · exact ⟨by rw [World.cell?_alloc_past _ _ _ (by simp <;> omega), World.cell?_alloc_past _ _ _ (by simp <;> omega), World.cell?_alloc_new]; rfl, by rw [World.cell?_alloc_past _ _ _ (by simp <;> omega), World.cell?_alloc_past _ _ _ (by simp <;> omega), World.cell?_alloc_new]; rfl⟩
    · exact (((Below.refl w.heap.size w).alloc (Nat.le_refl _) _).alloc (by simp) _).alloc (by simp; omega) _
    · rw [HR.out]; simp
  case round =>
    obtain ⟨at_, f, pre, a, c, rfl, hat, hpre, hf, HRD, HO, HC, HB, HK⟩ := hrel
    have hszr : w.heap.size + 2 < wr.heap.size := HRD.out.lt
    have hs0 : St wr w.heap.size (w.heap.size + 2) (.bool big) (.bool wide) big l wr.drew at_ false := ⟨HRD.out, HC.out, grownBy_drew (grownBy_refl _ _), by omega, hszr⟩
    obtain ⟨at1, hat1⟩ : ∃ x, x = rbAt l at_ false n := ⟨_, rfl⟩
    obtain ⟨bad1, hbad1⟩ : ∃ x, x = rbBad l at_ false n := ⟨_, rfl⟩
    obtain ⟨at2, hat2⟩ : ∃ x, x = rbAt l at1 bad1 n := ⟨_, rfl⟩
    obtain ⟨bad2, hbad2⟩ : ∃ x, x = rbBad l at1 bad1 n := ⟨_, rfl⟩
    obtain ⟨v1, hv1⟩ : ∃ x, x = rnV big l at_ false n := ⟨_, rfl⟩
    obtain ⟨v2, hv2⟩ : ∃ x, x = rnV big l at1 bad1 n := ⟨_, rfl⟩
    have ha1 : at1 ≤ l.length := by rw [hat1]; unfold rbAt; split <;> omega
    have HN1 := Lib.hid (fun W h => next_any (w.heap.size + 2) big l (by omega) at_ (by omega) false n hn8.1 hn8.2 W h)
    have HN2 := Lib.hid (fun W h => next_any (w.heap.size + 2) big l (by omega) at1 (by omega) bad1 n hn8.1 hn8.2 W h)
    rw [← hat1, ← hbad1, ← hv1] at HN1
    rw [← hat2, ← hbad2, ← hv2] at HN2
    have HOKc : Hid (bad2 = true ∧ R = none ∨ bad2 = false ∧ v1 < 18446744073709551616 ∧ v2 < 18446744073709551616 ∧ at2 = at_ + 2 * n ∧ at2 ≤ l.length ∧ (v1 = 0 ∧ R = some pre ∨ v1 ≠ 0 ∧ ∃ f', f = f' + 1 ∧ R = (dynR big n f' (l.drop at2)).map ((pre ++ [(v1, v2)]) ++ ·))) := Lib.hid (by
      obtain ⟨f', rfl⟩ : ∃ f', f = f' + 1 := ⟨f - 1, by omega⟩
      rw [hbad2, hv1, hv2, hat2, hbad1, hat1]
      exact dyn_step big n hn8 l at_ hat f' pre R HK.out)
    clear hat1 hbad1 hat2 hbad2 hv1 hv2
    have HS0 := Lib.hid hs0
    have ha0 := HC.out
    go_wp2
    go_region_held3 (fun w' => w'.cell? ⟨w.heap.size, 0, none⟩ = some (.bool big) ∧ w'.cell? ⟨w.heap.size, 1, none⟩ = some (.bool wide)) (first | exact ha0 | exact hs4.c | exact hs3.c | exact hs2.c | exact hs1.c | exact (hs0.alloc _).c | exact (hs4.alloc _).c | exact (hs3.alloc _).c | exact (hs2.alloc _).c | exact (hs1.alloc _).c | exact (hs4.set2 hxB _ _).c | exact ((hs4.alloc _).set2 hs4.size _ _).c)
      (first
        | (go_at_call 32; have hh := hs2; refine (HW.out _).mono ?_; rintro e w3 ⟨rfl, hb3⟩; (first | (have hs3 := hs2.below hb3) | (have hs3 := (hs2.alloc _).below hb3)); (first | (have xb := blk_below xb hb3) | (have xb := blk_below (heap_at _ _ _ rfl) hb3; have hxB := hs2.size) | skip))
        | (go_at_call 32; refine (HW.out _).mono ?_; rintro e w1 ⟨rfl, hb1⟩; (first | (have hs1 := hs0.below hb1) | (have hs1 := (hs0.alloc _).below hb1)); (first | (have xb := blk_below (show _ from heap_at wr.drew _ wr.heap.size rfl) hb1; have hxB := Nat.le_refl wr.heap.size) | skip))
        | (go_at_call 27; have hh := hs3; (first | refine (HN2.out _ hs3.r).mono ?_ | refine (HN2.out _ (hs3.alloc _).r).mono ?_); rintro e w4 ⟨rfl, hq4, hg4⟩; (first | (have hs4 := hs3.next hq4 hg4) | (have hs4 := (hs3.alloc _).next hq4 hg4)); (first | (have xb := blk_grown xb hg4 (hs3.far hxB)) | (have hxB := hs3.size; have xb := blk_grown (heap_at _ _ _ rfl) hg4 (hs3.far hxB)) | skip); (try (have x0 := Lib.cell_of_heap xb 0; have x1 := Lib.cell_of_heap xb 1; have xf0 := Lib.frozen_of_heap xb 0; have xf1 := Lib.frozen_of_heap xb 1; dsimp at x0 x1)))
        | (go_at_call 27; (first | refine (HN1.out _ hs1.r).mono ?_ | refine (HN1.out _ (hs1.alloc _).r).mono ?_); rintro e w2 ⟨rfl, hq2, hg2⟩; (first | (have hs2 := hs1.next hq2 hg2) | (have hs2 := (hs1.alloc _).next hq2 hg2)); (first | (have xb := blk_grown xb hg2 (hs1.far hxB)) | (have hxB := hs1.size; have xb := blk_grown (heap_at _ _ _ rfl) hg2 (hs1.far hxB)) | skip)))
    all_goals
      first
        | have HH := hs4.set2_all xb hxB (.int .u64 (v1 : Int)) (.int .u64 (v2 : Int))
        | have HH := hs4.new2_all (.int .u64 (v1 : Int)) (.int .u64 (v2 : Int)) 51
      obtain ⟨wF, hwF, HF, hx0, hx1⟩ := HH
      rw [hwF]
      have HFF := Lib.hid HF
      have hszF := HF.size
      have HOF := Lib.hid (ownsRow_grown_at HO.out HF.g (by omega))
      have HBF := Lib.hid (HB.out.trans (below_of_grown HF.g (by omega) (by omega)))
      try clear x0 x1 xf0 xf1
      try clear xb
      clear HF hs4 hs3 hs2 hs1 hs0 hb1 hb3 hq2 hg2 hq4 hg4 hwF ha0
      rcases HOKc.out with ⟨hb, hR⟩ | ⟨hb, hv1, hv2, ha2, hal, h0⟩
      · subst hb
        have HRR := Lib.hid hR
        clear hR HOKc
        go_wp2_with (first | (go_at_call 29; refine (err_any (w.heap.size + 2) big l at2 true _ HFF.out.r).mono ?_; rintro e w' ⟨rfl, rfl⟩))
        go_ret2
        rw [HRR.out]
        exact ⟨rfl, HBF.out⟩
      · subst hb
        rcases h0 with ⟨rfl, hR⟩ | ⟨hne, f', hf', hR⟩
        · have HRR := Lib.hid hR
          clear hR HOKc
          go_wp2_with (first | (go_at_call 29; refine (err_any (w.heap.size + 2) big l at2 false _ HFF.out.r).mono ?_; rintro e w' ⟨rfl, rfl⟩))
          go_ret2
          rw [HRR.out]
          exact ⟨_, _, rfl, own_lower HOF.out (by omega), HBF.out⟩
        · have HRR := Lib.hid hR
          clear hR HOKc
          go_wp2_with (first
            | (go_at_call 29; refine (err_any (w.heap.size + 2) big l at2 false _ HFF.out.r).mono ?_; rintro e wF ⟨rfl, rfl⟩)
            | (at_builtin; go_loud (refine wpList_append_own _ rfl _ _ 47 rfl (w.heap.size + 3) 51 i0 (.agg #[.int .u64 0, .int .u64 0]) 2 16 Tryd.underlying47 HI.out.1 HI.out.2.1 HI.out.2.2.1 HI.out.2.2.2 rfl (by decide) _ _ _ rfl (HOF.out.alloc _) ⟨wF.heap.size, 0, none⟩ 1 1 [.int .u64 (v1 : Int), .int .u64 (v2 : Int)] rfl rfl ?c1 ?c2 ?c3 ?c4 ?c5 ?_)))
          case c1 => exact new_cells _ _ [_, _] _ (by simp)
          case c2 => intro u hu; simp at hu; rcases hu with rfl | rfl <;> rfl
          case c3 => unfold maxLen; omega
          case c4 => omega
          case c5 => simp; omega
          intro vv ww hown hgrow hnn
          clear hnn
          obtain ⟨va, vc, rfl⟩ := own_slice hown
          have HBW := Lib.hid (show Below (w.heap.size + 3) wF ww from below_own ((Below.refl _ _).alloc (by omega) _) HOF.out hgrow (by simp; omega) (Nat.le_refl _))
          have HOW := Lib.hid hown
          clear hown hgrow
          have hlen : (pre ++ [(v1, v2)]).length = pre.length + 1 := by simp
          go_wp2
          go_roundw
          case rel =>
            refine ⟨at2, f', pre ++ [(v1, v2)], va, vc, by rw [hlen], hal, by omega, by omega, Lib.hid ?_, Lib.hid ?_, Lib.hid ?_, Lib.hid (HBF.out.trans (HBW.out.mono (by omega))), HRR⟩
            · unfold RdrAt; rw [HBW.out.block _ (by omega)]; exact HFF.out.r
            · rw [hlen]; have := HOW.out; simpa [encE] using this
            · rw [HBW.out.cell (by simp), HBW.out.cell (by simp)]; exact HFF.out.c
          case measure => simp [slLen]; omega
theorem dynamic_any (big wide : Bool) (l : List UInt8) (hl : l.length ≤ 100000) (w : World) :
    Calls Tryd.prog 14 #[.agg #[.bool big, .bool wide], .string ⟨l.toArray⟩] w (DynPost w (dynR big (wordN wide) (l.length + 1) l)) := by
  refine (dynamic_own big wide l hl w).mono ?_
  intro e w' h
  cases hr : dynR big (wordN wide) (l.length + 1) l with
  | none => rw [hr] at h; exact h
  | some es =>
    rw [hr] at h
    obtain ⟨a, c, he, ho, hb⟩ := h
    exact ⟨a, c, he, Rd.of_own ho, hb⟩
end Go.Proofs.YtcfbdnlbgcoicaaDoor

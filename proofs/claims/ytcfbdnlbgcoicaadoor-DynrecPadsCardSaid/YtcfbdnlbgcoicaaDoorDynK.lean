/- The walk of the law DynrecPads. -/
import Derived.Test.YtcfbdnlbgcoicaaDoorDynJ
import Derived.Lib.AtoiErrMem
namespace Go.Proofs.YtcfbdnlbgcoicaaDoor
set_option linter.unusedVariables false
set_option linter.unusedSimpArgs false
open Go.RowKit

theorem putNotes1 (big wide : Bool) (nm : List UInt8) (hn : nm.length ≤ 40) (b c : Nat) (w : World) (h : w.heap[b]? = some (.cells #[.int .u64 0, .string ⟨nm.toArray⟩, .string ⟨#[]⟩] 34 (0, 0))) :
    Calls Tryd.prog 9 #[.agg #[.bool big, .bool wide], .slice (some ⟨b, 0, none⟩) 1 c] w fun e w' => e = .returned (.tuple #[.string ⟨(noteL big wide ⟨0, nm, []⟩).toArray⟩, .bool true]) ∧ Below w.heap.size w w' := by
  have hf : noteFit wide ⟨0, nm, []⟩ = true := by rw [noteFit_iff wide _ (by show nm.length < _; omega) (by show ([] : List UInt8).length < _; decide)]; rfl
  have hl : (noteL big wide ⟨0, nm, []⟩).length ≤ 100 := by
    rw [noteL_eq big wide _ hf]
    simp only [List.length_append, putL_length, padZ_length, List.length_nil]
    omega
  have h1 : Rd w (some ⟨b, 0, none⟩) ([(⟨0, nm, []⟩ : NoteD)].flatMap encN) := .inr ⟨b, 0, rfl, fun j u hj => by rw [Lib.cell_of_heap h, Nat.zero_add]; simpa [encN] using hj⟩
  have h2 := putNotes_any big wide [⟨0, nm, []⟩] (by simp) (by simp; omega) (by simp only [List.flatMap_cons, List.flatMap_nil, List.append_nil]; omega) (some ⟨b, 0, none⟩) c w h1
  have h3 : ([(⟨0, nm, []⟩ : NoteD)].all (noteFit wide)) = true := by simp [hf]
  rw [h3] at h2
  have h4 : [(⟨0, nm, []⟩ : NoteD)].flatMap (noteL big wide) = noteL big wide ⟨0, nm, []⟩ := by simp
  rw [if_pos rfl, h4] at h2
  exact h2
/-- The note with one byte of its noughts set. -/
theorem pads_back (big wide : Bool) (nm : List UInt8) (hn : nm.length ≤ 40) (k : Nat) (hk : k < (padZ nm.length).length) (c : UInt8) (f : Nat) :
    noteR big (f + 2) ((noteL big wide ⟨0, nm, []⟩).set (12 + nm.length + k) c) = if c = 0 then .ok [⟨0, nm, []⟩] else .error 6 := by
  have hf : noteFit wide ⟨0, nm, []⟩ = true := by rw [noteFit_iff wide _ (by show nm.length < _; omega) (by show ([] : List UInt8).length < _; decide)]; rfl
  have e1 : noteL big wide ⟨0, nm, []⟩ = (putL big nm.length 4 ++ (putL big 0 4 ++ (putL big 0 4 ++ nm))) ++ padZ nm.length := by
    rw [noteL_eq big wide _ hf]
    simp [padZ]
  have e2 : (putL big nm.length 4 ++ (putL big 0 4 ++ (putL big 0 4 ++ nm))).length = 12 + nm.length := by
    simp only [List.length_append, putL_length]; omega
  rw [e1, List.set_append_right _ _ (by omega), e2, show 12 + nm.length + k - (12 + nm.length) = k by omega]
  have e3 : (putL big nm.length 4 ++ (putL big 0 4 ++ (putL big 0 4 ++ nm))) ++ (padZ nm.length).set k c = putL big nm.length 4 ++ (putL big ([] : List UInt8).length 4 ++ (putL big 0 4 ++ (nm ++ ((padZ nm.length).set k c ++ ([] ++ ([] ++ [])))))) := by simp
  rw [e3, noteR_cons big (f + 1) 0 nm [] _ [] [] (by omega) (by decide) (by decide) (by rw [List.length_set, padZ_mod]) rfl]
  rw [List.append_nil, noteR_nil]
  by_cases hc : c = 0
  · subst hc
    rw [if_pos rfl, if_pos]
    rw [List.all_eq_true]
    intro x hx
    rcases List.mem_or_eq_of_mem_set hx with h | h
    · simp [padZ] at h; simp [h.2]
    · simp [h]
  · rw [if_neg hc, if_neg]
    rw [List.all_eq_true]
    intro h
    have := h c (List.mem_set hk c)
    simp at this
    exact hc this

theorem bytes_frozen (w : World) (e : TypeId) (l : List UInt8) (j : Nat) (hj : j < l.length) : (Lib.bytesWorld w e ⟨l.toArray⟩).frozen? ⟨w.heap.size, j, none⟩ = false := by
  simp [World.frozen?, Lib.bytesWorld_at_new, Lib.bytesCells]
  omega
theorem bytes_set_cell (w : World) (e : TypeId) (l : List UInt8) (j : Nat) (hj : j < l.length) (c : UInt8) (i : Nat) (hi : i < (l.set j c).length) :
    ((Lib.bytesWorld w e ⟨l.toArray⟩).setCell ⟨w.heap.size, j, none⟩ (.int .u8 (c.toNat : Int))).cell? ⟨w.heap.size, i, none⟩ = some (.int .u8 ((l.set j c)[i].toNat : Int)) := by
  have hi2 : i < l.length := by rw [List.length_set] at hi; exact hi
  simp only [World.cell?, World.setCell, Array.getElem?_modify, Lib.bytesWorld_at_new, if_true, Option.map_some]
  by_cases h : j = i
  · subst h
    simp [Array.getElem?_setIfInBounds, Lib.bytesCells, List.getElem_set, hj, Array.getElem?_append]
  · simp [Array.getElem?_setIfInBounds, Lib.bytesCells, List.getElem_set, h, Array.getElem?_append, hi2]
theorem bytes_set_conv (w : World) (l : List UInt8) (j : Nat) (hj : j < l.length) (c : UInt8) (cap : Nat) :
    (convert 44 9 (.slice (some ⟨w.heap.size, 0, none⟩) l.length cap)).run Tryd.prog ((Lib.bytesWorld w 5 ⟨l.toArray⟩).setCell ⟨w.heap.size, j, none⟩ (.int .u8 (c.toNat : Int))) = .ok (.string ⟨(l.set j c).toArray⟩) ((Lib.bytesWorld w 5 ⟨l.toArray⟩).setCell ⟨w.heap.size, j, none⟩ (.int .u8 (c.toNat : Int))) := by
  have h := run_convert_bytes_back (P := Tryd.prog) ((Lib.bytesWorld w 5 ⟨l.toArray⟩).setCell ⟨w.heap.size, j, none⟩ (.int .u8 (c.toNat : Int))) 44 9 5 ⟨w.heap.size, 0, none⟩ cap (l.set j c) Tryd.underlying44 Tryd.underlying5 Tryd.underlying9 (fun i hi => by
    rw [Lib.add_plain, Nat.zero_add]; exact bytes_set_cell w _ l j hj c i hi)
  rw [List.length_set] at h
  exact h
theorem notesPads (big wide : Bool) (nm : List UInt8) (hn : nm.length ≤ 40) (k : Nat) (hk : k < (padZ nm.length).length) (c : UInt8) (w : World) :
    Calls Tryd.prog 11 #[.agg #[.bool big, .bool wide], .string ⟨((noteL big wide ⟨0, nm, []⟩).set (12 + nm.length + k) c).toArray⟩] w fun e w' => ∃ v, e = .returned (.tuple #[v, .int .i64 (if c = 0 then 0 else 6)]) ∧ Below w.heap.size w w' := by
  have hf : noteFit wide ⟨0, nm, []⟩ = true := by rw [noteFit_iff wide _ (by show nm.length < _; omega) (by show ([] : List UInt8).length < _; decide)]; rfl
  have hl : ((noteL big wide ⟨0, nm, []⟩).set (12 + nm.length + k) c).length ≤ 100 ∧ 12 ≤ ((noteL big wide ⟨0, nm, []⟩).set (12 + nm.length + k) c).length := by
    rw [List.length_set, noteL_eq big wide _ hf]
    simp only [List.length_append, putL_length, padZ_length, List.length_nil]
    omega
  have h := notes_any big wide _ (Nat.le_trans hl.1 (by decide)) w
  have h2 := pads_back big wide nm hn k hk c (((noteL big wide ⟨0, nm, []⟩).set (12 + nm.length + k) c).length - 1)
  rw [show ((noteL big wide ⟨0, nm, []⟩).set (12 + nm.length + k) c).length - 1 + 2 = ((noteL big wide ⟨0, nm, []⟩).set (12 + nm.length + k) c).length + 1 by omega] at h2
  rw [h2] at h
  by_cases hc : c = 0
  · rw [if_pos hc] at h ⊢
    refine h.mono ?_
    rintro e w' ⟨a, cc, rfl, hr, hb⟩
    exact ⟨_, rfl, hb⟩
  · rw [if_neg hc] at h ⊢
    refine h.mono ?_
    rintro e w' ⟨rfl, hb⟩
    exact ⟨_, rfl, hb⟩
theorem below_drewN_ {w w' : World} {k : Nat} (h : Below (w.drewN k).heap.size (w.drewN k) w') : Below w.heap.size w w' := ⟨h.os, h.tape, h.output, h.size, h.block⟩
set_option maxHeartbeats 8000000 in
theorem pads_walk (x y : Int) (hx : -9223372036854775808 ≤ x ∧ x ≤ 9223372036854775807) (hy : -9223372036854775808 ≤ y ∧ y ≤ 9223372036854775807) (l : List UInt8) (hl : l.length ≤ 9223372036854775807) (c : UInt8) (w : World) :
    Calls Tryd.prog 4 #[.agg #[.int .i64 x, .int .i64 y], .string ⟨l.toArray⟩, .int .u8 (c.toNat : Int)] w fun e w' => e = .returned (.bool true) ∧ Below w.heap.size w w' := by
  obtain ⟨m, hm⟩ : ∃ m, m = min l.length 40 := ⟨_, rfl⟩
  obtain ⟨nm, hnm⟩ : ∃ nm, nm = l.take m := ⟨_, rfl⟩
  have hml : nm.length ≤ 40 := by rw [hnm, List.length_take]; omega
  have hmin : min (l.length : Int) 40 = (m : Int) := by omega
  have hm2 : m ≤ l.length := by omega
  have hext : (⟨l.toArray⟩ : ByteArray).extract 0 m = ⟨nm.toArray⟩ := by rw [ext_list]; simp [hnm]
  have hls : (⟨l.toArray⟩ : ByteArray).size = l.length := rfl
  have hns : (⟨nm.toArray⟩ : ByteArray).size = nm.length := rfl
  obtain ⟨big, hbig⟩ : ∃ b, b = bigOf x := ⟨_, rfl⟩
  obtain ⟨wide, hwide⟩ : ∃ b, b = wideOf x := ⟨_, rfl⟩
  have HF := Lib.hid (fun W => formOf_any x W)
  rw [← hbig, ← hwide] at HF
  clear hm hnm hbig hwide
  go_enter Tryd.func4, Tryd.ntmps4
  go_wp2_with (first
    | (go_at_call 7; refine (speaks_any _).mono ?_; rintro e w1 ⟨rfl, hb1⟩; have h1 := Lib.hid (show Below w.heap.size w w1 from ((Below.refl _ _).alloc (Nat.le_refl _) _).trans (hb1.mono (by simp))); have q := (Below.cell (p := ⟨w.heap.size, 0, none⟩) hb1 (by simp)); have q' := (Below.cell (p := ⟨w.heap.size, 1, none⟩) hb1 (by simp)); rw [World.cell?_alloc_new] at q q'; dsimp at q q'; clear hb1))
  go_quiet (fail)
  obtain ⟨d, hd⟩ : ∃ d, d = (padZ nm.length).length := ⟨_, rfl⟩
  rw [padZ_length] at hd
  obtain ⟨r, hr⟩ : ∃ r, r = nm.length % 4 := ⟨_, rfl⟩
  have hr4 : r ≤ 3 := by omega
  have hd4 : d ≤ 3 := by omega
  have t1 : (nm.length : Int).tmod 4 = (r : Int) := by rw [Int.tmod_eq_emod_of_nonneg (by omega)]; omega
  have t2 : ((4 : Int) - (r : Int)).tmod 4 = (d : Int) := by rw [Int.tmod_eq_emod_of_nonneg (by omega)]; omega
  have HD := Lib.hid hd
  clear hd hr q q'
  obtain ⟨s, hs⟩ : ∃ s, s = noteL big wide ⟨0, nm, []⟩ := ⟨_, rfl⟩
  have hsl : s.length = 12 + nm.length + d := by
    rw [hs, noteL_eq big wide _ (by rw [noteFit_iff wide _ (by show nm.length < _; omega) (by show ([] : List UInt8).length < _; decide)]; rfl)]
    simp only [List.length_append, putL_length, padZ_length, List.length_nil]
    rw [HD.out]; omega
  have HP := Lib.hid (fun b c W h => putNotes1 big wide nm hml b c W h)
  rw [← hs] at HP
  have HS := Lib.hid hs
  have HSL := Lib.hid hsl
  clear hs hsl
  have hss : (⟨s.toArray⟩ : ByteArray).size = s.length := rfl
  by_cases hd0 : d = 0
  · subst hd0
    go_wp2_with (first
      | (go_at_call 8; refine (HF.out _).mono ?_; rintro e w2 ⟨rfl, hb2⟩; have h2 := Lib.hid (h1.out.trans ((below_drewN_ hb2).mono h1.out.size)); clear hb2)
      | (go_at_call 9; refine (HP.out (w2.heap.size + 1) _ _ (heap_at _ _ _ (by simp))).mono ?_; rintro e w3 ⟨rfl, hb3⟩; have h3 := Lib.hid (h2.out.trans (((((Below.refl w2.heap.size w2).alloc (Nat.le_refl _) _).alloc (by simp) _).trans (hb3.mono (by simp <;> omega))).mono h2.out.size)); clear hb3))
    go_ret
    exact ⟨rfl, h3.out⟩
  · obtain ⟨k, hk⟩ : ∃ k : Nat, (k : Int) = (y.tmod (d : Int) + (d : Int)).tmod (d : Int) := by
      have h1 := Int.tmod_lt_of_pos y (b := (d : Int)) (by omega)
      have h2 := Int.lt_tmod_of_pos y (b := (d : Int)) (by omega)
      exact ⟨((y.tmod (d : Int) + (d : Int)).tmod (d : Int)).toNat, by rw [Int.toNat_of_nonneg]; exact Int.tmod_nonneg _ (by omega)⟩
    have hkd : k < d := by have := Int.tmod_lt_of_pos (y.tmod (d : Int) + (d : Int)) (b := (d : Int)) (by omega); omega
    have t3 : IntKind.i64.wrap (y.tmod (d : Int) + (d : Int)) = y.tmod (d : Int) + (d : Int) := by
      have h1 := Int.tmod_lt_of_pos y (b := (d : Int)) (by omega)
      have h2 := Int.lt_tmod_of_pos y (b := (d : Int)) (by omega)
      rw [IntKind.wrap_i64]; omega
    have t4 := hk.symm
    clear hk
    have hdz : ((d : Int) == 0) = false := by simp; omega
    have hix : 12 + nm.length + k < s.length := by rw [HSL.out]; omega
    have hixs : (12 : Int) + (nm.length : Int) + (k : Int) < (s.length : Int) := by omega
    have HNP := Lib.hid (fun W => notesPads big wide nm hml k (by rw [padZ_length, ← HD.out]; exact hkd) c W)
    rw [← HS.out] at HNP
    obtain ⟨code, hcode⟩ : ∃ z : Int, z = if c = 0 then 0 else 6 := ⟨_, rfl⟩
    rw [← hcode] at HNP
    by_cases hc : c = 0
    · rw [if_pos hc] at hcode
      subst hcode
      have hcn0 : c.toNat = 0 := by rw [hc]; rfl
      have hcn : ((c.toNat : Int) == 0) = true := beq_iff_eq.2 (by omega)
      have hcn2 : ((c.toNat : Int) != 0) = false := by rw [bne, hcn]; rfl
      clear hc hcn0
      have kc := fun (W : World) (t : ByteArray) => Lib.run_convert_string_bytes (P := Tryd.prog) W 9 44 5 t Tryd.underlying9 Tryd.underlying44 Tryd.underlying5
      go_wp2_with (first
        | (go_at_call 8; refine (HF.out _).mono ?_; rintro e w2 ⟨rfl, hb2⟩; have h2 := Lib.hid (h1.out.trans ((below_drewN_ hb2).mono h1.out.size)); clear hb2)
        | (go_at_call 9; refine (HP.out (w2.heap.size + 1) _ _ (heap_at _ _ _ (by simp))).mono ?_; rintro e w3 ⟨rfl, hb3⟩; have h3 := Lib.hid (h2.out.trans (((((Below.refl w2.heap.size w2).alloc (Nat.le_refl _) _).alloc (by simp) _).trans (hb3.mono (by simp <;> omega))).mono h2.out.size)); have hfb := Lib.hid (blk_below (B := w2.heap.size) ((heap_past _ _ _ (by simp)).trans (heap_at _ _ _ rfl)) hb3); have hfr := bytes_frozen w3 5 s _ hix; have hcl := Lib.bytesWorld_cell w3 5 ⟨s.toArray⟩ _ hix; have hcv := bytes_set_conv w3 s _ hix c; have hlt3 : w2.heap.size < w3.heap.size := (by have := hb3.size; simp at this; omega); have hnb : ¬ (w2.heap.size = w3.heap.size) := Nat.ne_of_lt hlt3; have hnb2 : ¬ (w3.heap.size = w2.heap.size) := fun h => hnb h.symm; have hbo0 : (Lib.bytesWorld w3 5 ⟨s.toArray⟩).cell? ⟨w2.heap.size, 0, none⟩ = some (.bool big) := (by rw [Lib.bytesWorld_old _ _ _ _ hlt3, Lib.cell_of_heap hfb.out]; rfl); have hbo1 : (Lib.bytesWorld w3 5 ⟨s.toArray⟩).cell? ⟨w2.heap.size, 1, none⟩ = some (.bool wide) := (by rw [Lib.bytesWorld_old _ _ _ _ hlt3, Lib.cell_of_heap hfb.out]; rfl); have hgo0 := cell_grown hbo0 (grownBy_setCell _ ⟨w3.heap.size, 12 + nm.length + k, none⟩ (.int .u8 (c.toNat : Int))) hnb; have hgo1 := cell_grown hbo1 (grownBy_setCell _ ⟨w3.heap.size, 12 + nm.length + k, none⟩ (.int .u8 (c.toNat : Int))) hnb; clear hb3)
        | (go_at_call 11; refine (HNP.out _).mono ?_; rintro e w4 ⟨v4, rfl, hb4⟩))
      go_ret
      have hw5 := (Lib.bytesWorld_below w3 5 ⟨s.toArray⟩).trans (below_of_grown (B := w3.heap.size) (grownBy_setCell (Lib.bytesWorld w3 5 ⟨s.toArray⟩) ⟨w3.heap.size, 12 + nm.length + k, none⟩ (.int .u8 ((c.toNat : Int)))) (Nat.le_refl _) (by rw [Lib.bytesWorld_size]; omega))
      exact ⟨rfl, (h3.out.trans (hw5.mono h3.out.size)).trans (hb4.mono (Nat.le_trans h3.out.size hw5.size))⟩
    · rw [if_neg hc] at hcode
      subst hcode
      have hcn0 : c.toNat ≠ 0 := fun h => hc (UInt8.toNat_inj.1 h)
      have hcn : ((c.toNat : Int) == 0) = false := beq_eq_false_iff_ne.2 (by omega)
      have hcn2 : ((c.toNat : Int) != 0) = true := by rw [bne, hcn]; rfl
      clear hc hcn0
      have kc := fun (W : World) (t : ByteArray) => Lib.run_convert_string_bytes (P := Tryd.prog) W 9 44 5 t Tryd.underlying9 Tryd.underlying44 Tryd.underlying5
      go_wp2_with (first
        | (go_at_call 8; refine (HF.out _).mono ?_; rintro e w2 ⟨rfl, hb2⟩; have h2 := Lib.hid (h1.out.trans ((below_drewN_ hb2).mono h1.out.size)); clear hb2)
        | (go_at_call 9; refine (HP.out (w2.heap.size + 1) _ _ (heap_at _ _ _ (by simp))).mono ?_; rintro e w3 ⟨rfl, hb3⟩; have h3 := Lib.hid (h2.out.trans (((((Below.refl w2.heap.size w2).alloc (Nat.le_refl _) _).alloc (by simp) _).trans (hb3.mono (by simp <;> omega))).mono h2.out.size)); have hfb := Lib.hid (blk_below (B := w2.heap.size) ((heap_past _ _ _ (by simp)).trans (heap_at _ _ _ rfl)) hb3); have hfr := bytes_frozen w3 5 s _ hix; have hcl := Lib.bytesWorld_cell w3 5 ⟨s.toArray⟩ _ hix; have hcv := bytes_set_conv w3 s _ hix c; have hlt3 : w2.heap.size < w3.heap.size := (by have := hb3.size; simp at this; omega); have hnb : ¬ (w2.heap.size = w3.heap.size) := Nat.ne_of_lt hlt3; have hnb2 : ¬ (w3.heap.size = w2.heap.size) := fun h => hnb h.symm; have hbo0 : (Lib.bytesWorld w3 5 ⟨s.toArray⟩).cell? ⟨w2.heap.size, 0, none⟩ = some (.bool big) := (by rw [Lib.bytesWorld_old _ _ _ _ hlt3, Lib.cell_of_heap hfb.out]; rfl); have hbo1 : (Lib.bytesWorld w3 5 ⟨s.toArray⟩).cell? ⟨w2.heap.size, 1, none⟩ = some (.bool wide) := (by rw [Lib.bytesWorld_old _ _ _ _ hlt3, Lib.cell_of_heap hfb.out]; rfl); have hgo0 := cell_grown hbo0 (grownBy_setCell _ ⟨w3.heap.size, 12 + nm.length + k, none⟩ (.int .u8 (c.toNat : Int))) hnb; have hgo1 := cell_grown hbo1 (grownBy_setCell _ ⟨w3.heap.size, 12 + nm.length + k, none⟩ (.int .u8 (c.toNat : Int))) hnb; clear hb3)
        | (go_at_call 11; refine (HNP.out _).mono ?_; rintro e w4 ⟨v4, rfl, hb4⟩))
      go_ret
      have hw5 := (Lib.bytesWorld_below w3 5 ⟨s.toArray⟩).trans (below_of_grown (B := w3.heap.size) (grownBy_setCell (Lib.bytesWorld w3 5 ⟨s.toArray⟩) ⟨w3.heap.size, 12 + nm.length + k, none⟩ (.int .u8 ((c.toNat : Int)))) (Nat.le_refl _) (by rw [Lib.bytesWorld_size]; omega))
      exact ⟨rfl, (h3.out.trans (hw5.mono h3.out.size)).trans (hb4.mono (Nat.le_trans h3.out.size hw5.size))⟩
theorem pads_law (x y : Int) (hx : -9223372036854775808 ≤ x ∧ x ≤ 9223372036854775807) (hy : -9223372036854775808 ≤ y ∧ y ≤ 9223372036854775807) (l : List UInt8) (hl : l.length ≤ 140737488351232) (c : Nat) (hc : c < 256) (w : World) :
    Calls Tryd.prog 4 #[.agg #[.int .i64 x, .int .i64 y], .string ⟨l.toArray⟩, .int .u8 (c : Int)] w fun e w' => e = .returned (.bool true) ∧ Below w.heap.size w w' := by
  have h := pads_walk x y hx hy l (by omega) (UInt8.ofNat c) w
  rw [UInt8.toNat_ofNat_of_lt' (show c < 256 from hc)] at h
  exact h
end Go.Proofs.YtcfbdnlbgcoicaaDoor

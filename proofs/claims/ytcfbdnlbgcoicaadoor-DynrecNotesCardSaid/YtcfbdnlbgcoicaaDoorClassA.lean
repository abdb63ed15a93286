/- Contracts over this translation: class.Word, fits, Sizes. -/
import Derived.Test.YtcfbdnlbgcoicaaDoorOrderB
namespace Go.Proofs.YtcfbdnlbgcoicaaDoor
set_option linter.unusedVariables false
set_option linter.unusedSimpArgs false
open Go.RowKit

/-- The bytes of a word. -/
def wordN (wide : Bool) : Nat := if wide then 8 else 4
theorem word_any (big wide : Bool) (w : World) :
    Calls Tryd.prog 32 #[.agg #[.bool big, .bool wide]] w fun e w' => e = .returned (.int .i64 ((wordN wide : Nat) : Int)) ∧ w' = w.alloc (.cells #[.bool big, .bool wide] 27) := by
  cases wide <;>
  · go_enter Tryd.func32, Tryd.ntmps32
    go_wp2
    go_ret
    exact ⟨rfl, rfl⟩

/-- Is a number one of so many bytes? -/
def fitsB (n size : Nat) : Bool := decide (8 ≤ size) || decide (n / 256 ^ size = 0)
theorem shr_bytes (n size : Nat) : (n : Int) / 2 ^ (8 * (size : Int)).toNat = ((n / 256 ^ size : Nat) : Int) := by
  have e : (2 : Int) ^ (8 * (size : Int)).toNat = ((256 ^ size : Nat) : Int) := by
    rw [show (8 * (size : Int)).toNat = 8 * size by omega, show (256 : Nat) = 2 ^ 8 from rfl, ← Nat.pow_mul]
    simp
  rw [e]; rfl
theorem fits_any (n size : Nat) (hs : size ≤ 1000) (w : World) :
    Calls Tryd.prog 35 #[.int .u64 n, .int .i64 size] w fun e w' => e = .returned (.bool (fitsB n size)) ∧ w' = w := by
  by_cases h8 : 8 ≤ size
  · have e : fitsB n size = true := by unfold fitsB; simp [h8]
    rw [e]
    clear e
    go_enter Tryd.func35, Tryd.ntmps35
    go_wp2
    go_ret
    exact ⟨rfl, rfl⟩
  · have e : fitsB n size = decide (n / 256 ^ size = 0) := by unfold fitsB; simp [h8]
    rw [e]
    clear e
    have hw8 : IntKind.i64.wrap (8 * (size : Int)) = 8 * (size : Int) := by rw [IntKind.wrap_i64]; omega
    have hk8 : 0 ≤ 8 * (size : Int) := by omega
    have hsh := shr_bytes n size
    have HS := Lib.hid (show ((((n / 256 ^ size : Nat) : Int)) == 0) = decide (n / 256 ^ size = 0) by
      rw [Bool.eq_iff_iff]; simp only [beq_iff_eq, decide_eq_true_eq]; omega)
    have e8 : decide ((8 : Int) ≤ (size : Int)) = false := by simp; omega
    obtain ⟨q, hq⟩ : ∃ q, q = n / 256 ^ size := ⟨_, rfl⟩
    rw [← hq] at hsh HS ⊢
    clear hq
    go_enter Tryd.func35, Tryd.ntmps35
    go_wp2
    go_ret
    exact ⟨by rw [← HS.out]; rfl, rfl⟩

theorem Tryd.infoInt : (Tryd.prog.info? 3).map (fun i => (i.zero, i.size, i.bytes)) = some (some (.int .i64 0), 1, 8) := by kernel_rfl
def szOf (wide : Bool) (z : Nat) : Nat := if z = 0 then wordN wide else z
def sumOf (wide : Bool) (zs : List Nat) : Nat := (zs.map (szOf wide)).sum
theorem sumOf_le (wide : Bool) (zs : List Nat) (h : ∀ z ∈ zs, z ≤ 8) : sumOf wide zs ≤ 8 * zs.length := by
  induction zs with
  | nil => simp [sumOf]
  | cons x r ih =>
    have h1 := ih (fun z hz => h z (List.mem_cons_of_mem _ hz))
    have h2 : szOf wide x ≤ 8 := by
      have := h x (List.mem_cons_self ..)
      unfold szOf; split
      · unfold wordN; split <;> omega
      · exact this
    simp only [sumOf, List.map_cons, List.sum_cons, List.length_cons] at h1 ⊢
    omega
def encI (z : Nat) : Value := .int .i64 (z : Int)
/-- A slice and a number are handed back. -/
def SizesPost (zs : List Nat) (sum : Nat) (w : World) (e : Ending) (w' : World) : Prop :=
  ∃ a c, e = .returned (.tuple #[.slice a zs.length c, .int .i64 (sum : Int)]) ∧ Rd w' a (zs.map encI) ∧ Below w.heap.size w w'
set_option maxHeartbeats 1000000 in
theorem sizes_any (big wide : Bool) (zs : List Nat) (hz : ∀ z ∈ zs, z ≤ 8) (hl : zs.length ≤ 100) (a : Option Addr) (c : Nat) (w : World) (hr : Rd w a (zs.map encI)) :
    Calls Tryd.prog 34 #[.agg #[.bool big, .bool wide], .slice a zs.length c] w (SizesPost (zs.map (szOf wide)) (sumOf wide zs) w) := by
  obtain ⟨i0, hi, hz0, hz1, hz2⟩ := info_parts Tryd.infoInt
  have HR := Lib.hid hr
  have HZ := Lib.hid hz
  clear hr hz
  go_enter Tryd.func34, Tryd.ntmps34
  go_wp2
  go_loopw [6, 7, 12] (fun v s i wr => ∃ k : Nat, k ≤ zs.length ∧ s = .int .i64 ((sumOf wide (zs.take k) : Nat) : Int) ∧ i = .int .i64 k ∧ Hid (wr.ownsRow (w.heap.size + 1) 3 1 v k ((zs.take k).map fun z => encI (szOf wide z))) ∧ Hid (wr.cell? ⟨w.heap.size, 0, none⟩ = some (.bool big) ∧ wr.cell? ⟨w.heap.size, 1, none⟩ = some (.bool wide)) ∧ Hid (Below w.heap.size w wr) ∧ w.heap.size + 1 ≤ wr.heap.size) (fun _ _ i _ => zs.length - (intOf i).toNat)
  case atStart =>
    refine ⟨0, Nat.zero_le _, rfl, rfl, ?_, ?_, ?_, ?_⟩
    · exact Lib.hid (World.ownsRow_nil _ _ _ _)
    · exact Lib.hid (by rw [World.cell?_alloc_new, World.cell?_alloc_new]; exact ⟨rfl, rfl⟩)
    · exact Lib.hid ((Below.refl _ _).alloc (Nat.le_refl _) _)
    · simp
  case round =>
    obtain ⟨k, hk, rfl, rfl, HO, HC, HB, hsz⟩ := hrel
    by_cases hlt : k < zs.length
    · have hz8 : zs[k] ≤ 8 := HZ.out _ (List.getElem_mem hlt)
      obtain ⟨z, hzk⟩ : ∃ z, z = zs[k] := ⟨_, rfl⟩
      rw [← hzk] at hz8
      obtain ⟨b, o, ha, hcl⟩ := HR.out.at (by simp; omega)
      have hcell0 : w.cell? ⟨b, o + k, none⟩ = some (.int .i64 (z : Int)) := hcl k _ (by simp [hlt, encI, ← hzk])
      have hcell : wr.cell? ⟨b, o + k, none⟩ = some (.int .i64 (z : Int)) := by rw [HB.out.cell (cell_lt hcell0)]; exact hcell0
      subst ha
      have HK := Lib.hid hzk
      clear hcl hcell0 hzk
      have hbox0 := HC.out.1
      have hbox1 := HC.out.2
      by_cases h0 : z = 0
      · have h0b : ((z : Int) == 0) = true := by simp; omega
        have hw4 : wordN wide ≤ 8 := by unfold wordN; split <;> omega
        go_wp2_with (first
          | (go_at_call 32; refine (word_any big wide _).mono ?_; rintro e w' ⟨rfl, rfl⟩)
          | (at_builtin; refine wpList_append_own _ rfl _ _ 68 rfl (w.heap.size + 1) 3 i0 (.int .i64 0) 1 8 Tryd.underlying68 hi hz0 hz1 hz2 rfl (by decide) _ _ _ rfl ((HO.out.alloc _).alloc _) ⟨wr.heap.size + 1, 0, none⟩ 1 1 [.int .i64 ((wordN wide : Nat) : Int)] rfl rfl ?c1 ?c2 ?c3 ?c4 ?c5 ?_))
        case c1 => exact new_cells _ _ [_] _ (by simp)
        case c2 => intro u hu; simp at hu; subst hu; rfl
        case c3 => unfold maxLen; omega
        case c4 => omega
        case c5 => simp; omega
        intro v' w1 hown' hgrow _
        have hb1 : Below w.heap.size w w1 := below_own ((HB.out.alloc (by omega) _).alloc (by simp; omega) _) HO.out hgrow (by simp; omega) (by omega)
        have hb2 := below_own (B := w.heap.size + 1) (((Below.refl _ wr).alloc (by omega) _).alloc (by simp; omega) _) HO.out hgrow (by simp; omega) (by omega)
        have hsum : sumOf wide (zs.take (k + 1)) = sumOf wide (zs.take k) + szOf wide z := by
          unfold sumOf; rw [List.take_succ_eq_append_getElem hlt, List.map_append, List.sum_append, ← HK.out]; simp
        have hs1 : sumOf wide (zs.take k) ≤ 1000 := by have := sumOf_le wide (zs.take k) (fun x hx => HZ.out x (List.mem_of_mem_take hx)); rw [List.length_take] at this; omega
        have hzz : szOf wide z = (wordN wide : Nat) := by unfold szOf; rw [if_pos h0]
        have HS := Lib.hid hsum
        have HZZ := Lib.hid hzz
        have HOW := Lib.hid hown'
        have HG := Lib.hid hgrow
        have HB1 := Lib.hid hb1
        have HB2 := Lib.hid hb2
        clear hsum hzz hown' hgrow hb1 hb2
        go_wp2
        go_roundw
        case rel =>
          refine ⟨k + 1, by omega, by rw [HS.out, HZZ.out]; go_num, by go_num, ?_, ?_, HB1, ?_⟩
          · refine Lib.hid ?_
            have := HOW.out
            rw [List.take_succ_eq_append_getElem hlt, List.map_append, ← HK.out]
            simpa [encI, HZZ.out, List.map_take] using this
          · refine Lib.hid ?_
            rw [HB2.out.cell (by simp), HB2.out.cell (by simp)]
            exact HC.out
          · have := HB2.out.size; omega
        case measure => simp [intOf]; omega
      · have h0b : ((z : Int) == 0) = false := by simp; omega
        go_wp2_with (first
          | (go_at_call 32; refine (word_any big wide _).mono ?_; rintro e w' ⟨rfl, rfl⟩)
          | (at_builtin; refine wpList_append_own _ rfl _ _ 68 rfl (w.heap.size + 1) 3 i0 (.int .i64 0) 1 8 Tryd.underlying68 hi hz0 hz1 hz2 rfl (by decide) _ _ _ rfl (HO.out.alloc _) ⟨wr.heap.size, 0, none⟩ 1 1 [.int .i64 (z : Int)] rfl rfl ?c1 ?c2 ?c3 ?c4 ?c5 ?_))
        case c1 => exact new_cells _ _ [_] _ (by simp)
        case c2 => intro u hu; simp at hu; subst hu; rfl
        case c3 => unfold maxLen; omega
        case c4 => omega
        case c5 => simp; omega
        intro v' w1 hown' hgrow _
        have hb1 : Below w.heap.size w w1 := below_own (HB.out.alloc (by omega) _) HO.out hgrow (by simp; omega) (by omega)
        have hb2 := below_own (B := w.heap.size + 1) ((Below.refl _ wr).alloc (by omega) _) HO.out hgrow (by simp; omega) (by omega)
        have hsum : sumOf wide (zs.take (k + 1)) = sumOf wide (zs.take k) + szOf wide z := by
          unfold sumOf; rw [List.take_succ_eq_append_getElem hlt, List.map_append, List.sum_append, ← HK.out]; simp
        have hs1 : sumOf wide (zs.take k) ≤ 1000 := by have := sumOf_le wide (zs.take k) (fun x hx => HZ.out x (List.mem_of_mem_take hx)); rw [List.length_take] at this; omega
        have hzz : szOf wide z = z := by unfold szOf; rw [if_neg h0]
        have HS := Lib.hid hsum
        have HZZ := Lib.hid hzz
        have HOW := Lib.hid hown'
        have HG := Lib.hid hgrow
        have HB1 := Lib.hid hb1
        have HB2 := Lib.hid hb2
        clear hsum hzz hown' hgrow hb1 hb2
        go_wp2
        go_roundw
        case rel =>
          refine ⟨k + 1, by omega, by rw [HS.out, HZZ.out]; go_num, by go_num, ?_, ?_, HB1, ?_⟩
          · refine Lib.hid ?_
            have := HOW.out
            rw [List.take_succ_eq_append_getElem hlt, List.map_append, ← HK.out]
            simpa [encI, HZZ.out, List.map_take] using this
          · refine Lib.hid ?_
            rw [HB2.out.cell (by simp), HB2.out.cell (by simp)]
            exact HC.out
          · have := HB2.out.size; omega
        case measure => simp [intOf]; omega
    · obtain rfl : k = zs.length := by omega
      have ht : zs.take zs.length = zs := List.take_length
      rw [ht] at HO ⊢
      obtain ⟨va, vc, hv⟩ := own_slice HO.out
      subst hv
      have HR2 := Lib.hid (Rd.of_own HO.out)
      go_wp2
      go_ret2
      refine ⟨va, vc, by simp, ?_, HB.out⟩
      have := HR2.out
      simpa [List.map_map, Function.comp_def] using this
end Go.Proofs.YtcfbdnlbgcoicaaDoor

/- Contracts over this translation: cells.Row, cells.Render. -/
import Derived.Test.YtipnoeffahnfaaaDoorCelR
import Derived.Test.YtipnoeffahnfaaaDoorBridge
namespace Go.Proofs.YtipnoeffahnfaaaDoor
set_option linter.unusedVariables false
set_option linter.unusedSimpArgs false
open Go.RowKit Go.Proofs.YtipnoeffahnfaaaDoorW.PrintWords

theorem join_len (b : UInt8) (M : Nat) : ∀ l : List (List UInt8), (∀ x ∈ l, x.length ≤ M) → ([b].intercalate l).length ≤ l.length * (M + 1)
  | [], _ => by simp [List.intercalate]
  | [x], h => by
    have := h x (by simp)
    have e : [b].intercalate [x] = x := by simp [List.intercalate]
    rw [e]; simp; omega
  | x :: y :: r, h => by
    have h1 := h x (by simp)
    have ih := join_len b M (y :: r) (fun z hz => h z (by simp at hz ⊢; rcases hz with h | h <;> simp [h]))
    have e : [b].intercalate (x :: y :: r) = x ++ b :: [b].intercalate (y :: r) := by simp [List.intercalate]
    rw [e, List.length_append, List.length_cons, List.length_cons, Nat.succ_mul]
    omega
theorem line_len (l : List (List UInt8)) (M : Nat) (h : ∀ x ∈ l, x.length ≤ M) : (lineC l).length ≤ l.length * (3 * M + 2) := by
  unfold lineC
  have := join_len 32 (3 * M + 1) (l.map cellR) (fun x hx => by
    obtain ⟨y, hy, rfl⟩ := List.mem_map.1 hx
    have := cell_len y
    have := h y hy
    omega)
  rw [List.length_map] at this
  exact this
theorem rd_strs (L : List (List UInt8)) : L.map strV = (L.map fun x => (⟨x.toArray⟩ : ByteArray)).map Value.string := by rw [List.map_map]; rfl
theorem cat_end (l : List UInt8) (b : UInt8) : (⟨l.toArray⟩ : ByteArray) ++ (⟨#[b]⟩ : ByteArray) = ⟨(l ++ [b]).toArray⟩ := by
  apply ByteArray.ext; rw [ByteArray.data_append]; apply Array.ext'; simp
set_option maxRecDepth 100000 in
set_option maxHeartbeats 1000000 in
theorem rowT_any (L : List (List UInt8)) (hL : L.length ≤ 1000) (hM : ∀ x ∈ L, x.length ≤ 1000) (a : Option Addr) (c : Nat) (w : World) (hr : Rd w a (L.map strV)) :
    Calls Tryd.prog 11 #[.slice a L.length c] w fun e w' => e = .returned (.string ⟨(lineC L ++ [10]).toArray⟩) ∧ Below w.heap.size w w' := by
  have HR := Lib.hid hr
  clear hr
  obtain ⟨i0, hi, hz0, hz1, hz2⟩ := info_parts Tryd.infoStr
  go_enter Tryd.func11, Tryd.ntmps11
  go_wp2
  go_loopw [3, 8] (fun o i wr => ∃ k : Nat, k ≤ L.length ∧ i = .int .i64 k ∧ Hid (wr.ownsRow w.heap.size 9 1 o k (((L.take k).map cellR).map strV)) ∧ Hid (Below w.heap.size w wr)) (fun _ i _ => L.length - (intOf i).toNat)
  case atStart => exact ⟨0, Nat.zero_le _, rfl, Lib.hid (World.ownsRow_nil _ _ _ _), Lib.hid (Below.refl _ _)⟩
  case round =>
    obtain ⟨k, hk, rfl, HO, HB⟩ := hrel
    by_cases hlt : k < L.length
    · obtain ⟨x, hx⟩ : ∃ x, x = L[k] := ⟨_, rfl⟩
      obtain ⟨b0, o0, hbo, hcl⟩ := (HR.out.below HB.out).at (by rw [List.length_map]; omega)
      subst hbo
      have q0 := hcl k (.string ⟨x.toArray⟩) (by rw [List.getElem?_map, List.getElem?_eq_getElem hlt, hx]; rfl)
      have hxl : x.length ≤ 1000 := by rw [hx]; exact hM _ (List.getElem_mem hlt)
      have HX := Lib.hid hx
      have HC := Lib.hid (fun W => cell_any x (by omega) W)
      have hsz := HB.out.size
      clear hcl hx
      go_wp2_with (first
        | (go_at_call 16; refine (HC.out _).mono ?_; rintro e w1 ⟨rfl, hb1⟩; have HO1 := Lib.hid (ownsRow_below HO.out hb1); have HB1 := Lib.hid (below_step HB.out (by have h0 := HB.out; exact hb1)); have hs1 := hb1.size; clear hb1)
        | (at_builtin; refine wpList_append_own _ rfl _ _ 29 rfl w.heap.size 9 i0 (.string ⟨#[]⟩) 1 16 Tryd.underlying29 hi hz0 hz1 hz2 rfl (by decide) _ _ _ rfl (HO1.out.alloc _) ⟨w1.heap.size, 0, none⟩ 1 1 [.string ⟨(cellR x).toArray⟩] rfl rfl ?c1 ?c2 ?c3 ?c4 ?c5 ?_))
      case c1 => exact new_cells _ _ [_] _ (by simp)
      case c2 => intro u hu; simp at hu; subst hu; rfl
      case c3 => unfold maxLen; omega
      case c4 => omega
      case c5 => simp; omega
      intro v' w2 hown' hgrow _
      have hb2 : Below w.heap.size w w2 := below_own (HB1.out.alloc HB1.out.size _) HO1.out hgrow (by simp; omega) (Nat.le_refl _)
      have HOW := Lib.hid hown'
      have HB2 := Lib.hid hb2
      clear hown' hgrow hb2
      go_wp2
      go_roundw
      case rel =>
        refine ⟨k + 1, by omega, by go_num, Lib.hid ?_, HB2⟩
        have := HOW.out
        rw [List.take_succ_eq_append_getElem hlt, List.map_append, List.map_append, ← HX.out]
        simpa [strV] using this
      case measure => simp [intOf]; omega
    · obtain rfl : k = L.length := by omega
      have hO := HO.out
      rw [List.take_length] at hO
      obtain ⟨va, vc, hv⟩ := Go.Proofs.YtipnoeffahnfaaaDoor.own_slice hO
      subst hv
      have HO2 := Lib.hid hO
      clear hO
      have hll := line_len L 1000 hM
      have hmul : L.length * (3 * 1000 + 2) ≤ 1000 * (3 * 1000 + 2) := Nat.mul_le_mul_right _ hL
      have HJ := Lib.hid (show ∀ W, W.ownsRow w.heap.size 9 1 (.slice va L.length vc) L.length ((L.map cellR).map strV) → Calls Tryd.prog 21 #[.slice va L.length vc, .string ⟨#[32]⟩] W fun e w' => e = .returned (.string ⟨(lineC L).toArray⟩) ∧ Below W.heap.size W w' from fun W hown => by
        have hjl : Lib.join (((L.map cellR).map fun x => (⟨x.toArray⟩ : ByteArray)).map (·.data.toList)) (⟨#[32]⟩ : ByteArray).data.toList = lineC L := by
          unfold Lib.join lineC
          rw [List.map_map]
          congr 1
          exact List.map_id _
        have hrd : Rd W va (((L.map cellR).map fun x => (⟨x.toArray⟩ : ByteArray)).map Value.string) := by rw [← rd_strs]; exact Rd.of_own hown
        rcases Nat.eq_zero_or_pos L.length with h0 | h0
        · have hnil : L = [] := List.eq_nil_of_length_eq_zero h0
          subst hnil
          refine (Tryd.strings_Join_none va vc ⟨#[32]⟩ W).mono ?_
          rintro e w' ⟨rfl, rfl⟩
          exact ⟨rfl, Below.refl _ _⟩
        · obtain ⟨bk, o, rfl, hcl⟩ := hrd.at (by simpa using h0)
          have hcap : L.length ≤ vc := by
            rcases hown.2 with ⟨hv, _⟩ | ⟨g, cap, cur, hv, _, _, h2, _⟩
            · cases hv
            · injection hv with _ _ h3; omega
          have h := Tryd.strings_Join bk o vc ((L.map cellR).map fun x => (⟨x.toArray⟩ : ByteArray)) ⟨#[32]⟩ W (fun j x hx => hcl j _ (by rw [List.getElem?_map, hx]; rfl))
            (cell_lt (hcl 0 _ (by rw [List.getElem?_map, List.getElem?_eq_getElem (by simpa using h0)]; rfl))) (by simp; omega) (by simpa using hcap) (by rw [hjl]; omega)
          rw [hjl] at h
          simpa using h)
      have hlc : ¬ (9223372036854775807 < (lineC L).length + 1) := by omega
      go_wp2_with (first | (go_at_call 21; refine (HJ.out _ HO2.out).mono ?_; rintro e w1 ⟨rfl, hb1⟩; have HB1 := Lib.hid (HB.out.trans (hb1.mono HB.out.size)); clear hb1))
      go_ret
      exact ⟨rfl, HB1.out⟩
/-- Element k of rows that are read. -/
theorem row_at {w : World} {A : Option Addr} {n : Nat} {rows : List (List ByteArray)} (h : Kd.C (Kd.slice 9 Kd.string) w A n rows) (k : Nat) (hk : k < rows.length) :
    ∃ ad A1 c1, A = some ad ∧ w.cell? (ad.add k) = some (.slice A1 rows[k].length c1) ∧ Rd w A1 (rows[k].map Value.string) := by
  have hn : rows.length = n := h.1
  obtain ⟨ad, c, hA, hcl, hK, hcc⟩ := Kd.C_get h [] (k : Int) (by omega) (by omega)
  rw [Int.toNat_natCast] at hK hcc
  have hg : rows.getD k [] = rows[k] := by rw [List.getD_eq_getElem?_getD, List.getElem?_eq_getElem hk]; rfl
  rw [hg] at hK
  obtain ⟨A1, c1, rfl, hl, hC⟩ := hK
  refine ⟨ad, A1, c1, hA, ?_, ?_⟩
  · have := hcc 0 _ rfl
    simpa [Kd.slice] using this
  · have := rd_of_C (d := Kd.string) (fun z => [Value.string z]) (by decide) (fun _ => rfl) (fun _ _ _ h => h) hC
    have e : ∀ l : List ByteArray, (l.flatMap fun z => [Value.string z]) = l.map Value.string := by
      intro l; induction l with
      | nil => rfl
      | cons x r ih => rw [List.flatMap_cons, ih]; rfl
    rw [e] at this
    exact this
/-- Rows as lists of bytes. -/
def rowsL (rows : List (List ByteArray)) : List (List (List UInt8)) := rows.map fun r => r.map fun s : ByteArray => s.data.toList
theorem row_strs (r : List ByteArray) : (r.map fun s : ByteArray => s.data.toList).map strV = r.map Value.string := by
  rw [List.map_map]
  refine List.map_congr_left (fun s _ => ?_)
  show Value.string ⟨s.data.toList.toArray⟩ = _
  cases s; simp
theorem render_take (rows : List (List ByteArray)) (k : Nat) (h : k < rows.length) : renderC (rowsL (rows.take (k + 1))) = renderC (rowsL (rows.take k)) ++ (lineC (rows[k].map fun s : ByteArray => s.data.toList) ++ [10]) := by
  unfold renderC rowsL
  rw [List.take_succ_eq_append_getElem h, List.map_append, List.flatMap_append]; simp
theorem render_len (l : List (List (List UInt8))) (hl : ∀ r ∈ l, r.length ≤ 1000 ∧ ∀ x ∈ r, x.length ≤ 1000) : (renderC l).length ≤ l.length * 3002001 := by
  unfold renderC
  induction l with
  | nil => simp
  | cons r q ih =>
    have h1 := hl r (by simp)
    have h2 := line_len r 1000 h1.2
    have h3 := ih (fun z hz => hl z (by simp [hz]))
    have h4 : r.length * (3 * 1000 + 2) ≤ 1000 * (3 * 1000 + 2) := Nat.mul_le_mul_right _ h1.1
    rw [List.flatMap_cons]
    simp only [List.length_append, List.length_cons, List.length_nil, Nat.succ_mul]
    omega
set_option maxRecDepth 100000 in
set_option maxHeartbeats 1000000 in
theorem render_any (rows : List (List ByteArray)) (hR : rows.length ≤ 1000) (hM : ∀ r ∈ rows, r.length ≤ 1000 ∧ ∀ x ∈ r, x.size ≤ 1000) (a : Option Addr) (c : Nat) (w : World) (hr : Kd.C (Kd.slice 9 Kd.string) w a rows.length rows) :
    Calls Tryd.prog 13 #[.slice a rows.length c] w fun e w' => e = .returned (.string ⟨(renderC (rowsL rows)).toArray⟩) ∧ Below w.heap.size w w' := by
  have HR := Lib.hid hr
  clear hr
  go_enter Tryd.func13, Tryd.ntmps13
  go_wp2
  have HB0 := Lib.hid (show Bld (w.heap.size + 1) w.heap.size [] (w.alloc (.cells #[.pointer none, .slice none 0 0] 48)) from
    Bld.fresh (heap_at _ _ _ rfl) (by omega) (by simp))
  have HW0 := Lib.hid (show Below w.heap.size w (w.alloc (.cells #[.pointer none, .slice none 0 0] 48)) from (Below.refl _ _).alloc (Nat.le_refl _) _)
  go_loopw [8] (fun i wr => ∃ k : Nat, k ≤ rows.length ∧ i = .int .i64 k ∧ Hid (Bld (w.heap.size + 1) w.heap.size (renderC (rowsL (rows.take k))) wr) ∧ Hid (Below w.heap.size w wr)) (fun i _ => rows.length - (intOf i).toNat)
  case atStart => exact ⟨0, Nat.zero_le _, rfl, HB0, HW0⟩
  case round =>
    obtain ⟨k, hk, rfl, HB, HW⟩ := hrel
    by_cases hlt : k < rows.length
    · obtain ⟨ad, A1, c1, hA, hcell, hrd⟩ := row_at (Kd.C_below HR.out HW.out) k hlt
      subst hA
      obtain ⟨r, hrr⟩ : ∃ r, r = rows[k] := ⟨_, rfl⟩
      have hm := hM rows[k] (List.getElem_mem hlt)
      have HS := Lib.hid (render_take rows k hlt)
      rw [← hrr] at hcell hrd hm HS
      have hlen : (r.map fun s : ByteArray => s.data.toList).length = r.length := List.length_map _
      have hml : ∀ x ∈ r.map (fun s : ByteArray => s.data.toList), x.length ≤ 1000 := fun x hx => by
        obtain ⟨s, hs, rfl⟩ := List.mem_map.1 hx
        rw [Array.length_toList]; exact hm.2 s hs
      have HRT := Lib.hid (fun W (hB : Below wr.heap.size wr W) => by
        have h := rowT_any (r.map fun s : ByteArray => s.data.toList) (by rw [hlen]; exact hm.1) hml A1 c1 W (by rw [row_strs]; exact hrd.below hB)
        rw [hlen] at h
        exact h)
      have HL := Lib.hid (show (renderC (rowsL (rows.take k))).length + (lineC (r.map fun s : ByteArray => s.data.toList) ++ [10]).length ≤ 140737488355328 from by
        have h1 := render_len (rowsL (rows.take k)) (fun z hz => by
          unfold rowsL at hz
          obtain ⟨y, hy, rfl⟩ := List.mem_map.1 hz
          have h2 := hM y (List.mem_of_mem_take hy)
          refine ⟨by rw [List.length_map]; exact h2.1, fun x hx => ?_⟩
          obtain ⟨s, hs, rfl⟩ := List.mem_map.1 hx
          rw [Array.length_toList]; exact h2.2 s hs)
        have h3 := line_len _ 1000 hml
        rw [hlen] at h3
        have h4 : r.length * (3 * 1000 + 2) ≤ 1000 * (3 * 1000 + 2) := Nat.mul_le_mul_right _ hm.1
        have h5 : (rowsL (rows.take k)).length ≤ 1000 := by unfold rowsL; rw [List.length_map, List.length_take]; omega
        have h6 : (rowsL (rows.take k)).length * 3002001 ≤ 1000 * 3002001 := Nat.mul_le_mul_right _ h5
        rw [List.length_append, List.length_singleton]
        omega)
      have hsz := HW.out.size
      obtain ⟨T, hT⟩ : ∃ T, T = renderC (rowsL (rows.take k)) := ⟨_, rfl⟩
      obtain ⟨ln, hln⟩ : ∃ ln, ln = lineC (r.map fun s : ByteArray => s.data.toList) ++ [10] := ⟨_, rfl⟩
      rw [← hT] at HB HL HS
      rw [← hln] at HRT HL HS
      clear hrr hm hlen hml hrd hT hln
      go_wp2_with (first
        | (go_at_call 11; refine (HRT.out _ (Below.refl _ _)).mono ?_; rintro e w1 ⟨rfl, hb1⟩; have HB1 := Lib.hid (HB.out.below hb1); have HW1 := Lib.hid (HW.out.trans (hb1.mono HW.out.size)); clear hb1)
        | (go_at_call 22; refine (writeString_b (w.heap.size + 1) w.heap.size T ln _ HB1.out HL.out).mono ?_; rintro e w2 ⟨rfl, hb2, hk2⟩; have HB2 := Lib.hid hb2; have HK2 := Lib.hid hk2; clear hb2 hk2))
      go_roundw
      case rel => exact ⟨k + 1, by omega, by go_num, Lib.hid (by rw [HS.out]; exact HB2.out), Lib.hid (HW1.out.trans (HK2.out.below (Nat.le_refl _) (by omega)))⟩
      case measure => simp [intOf]; omega
    · obtain rfl : k = rows.length := by omega
      have HB1 := Lib.hid (show Bld (w.heap.size + 1) w.heap.size (renderC (rowsL rows)) wr by have := HB.out; rw [List.take_length] at this; exact this)
      go_wp2_with (first | (go_at_call 23; refine (string_b (w.heap.size + 1) w.heap.size _ _ HB1.out).mono ?_; rintro e w2 ⟨rfl, hb2⟩; have HB2 := Lib.hid hb2; clear hb2))
      go_ret
      exact ⟨rfl, HW.out.trans HB2.out⟩
end Go.Proofs.YtipnoeffahnfaaaDoor

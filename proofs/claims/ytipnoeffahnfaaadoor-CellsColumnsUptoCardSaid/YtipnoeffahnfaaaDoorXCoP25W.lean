/- The walk of layer 25's CellsColumns. -/
import Derived.Test.YtipnoeffahnfaaaDoorXCoP25C
import Derived.OwnWalk
namespace Go.Proofs.YtipnoeffahnfaaaDoor
set_option linter.unusedVariables false
set_option linter.unusedSimpArgs false
open Go.RowKit Go.Proofs.YtipnoeffahnfaaaDoorX.Co Go.Proofs.YtipnoeffahnfaaaDoorW.PrintWords Go.Proofs.YtipnoeffahnfaaaDoorW.PrintLast Go.Proofs.YtipnoeffahnfaaaDoorW.PrintMore
attribute [local go_sem] max2_int min2_int max_two min_two

theorem infoRow : (Tryd.prog.info? 29).map (fun i => (i.zero, i.size, i.bytes)) = some (some (.slice none 0 0), 1, 24) := by kernel_rfl
/-- Element k of rows that are read, and its elements. -/
theorem row_at2 {w : World} {A : Option Addr} {n : Nat} {rows : List (List ByteArray)} (h : Kd.C (Kd.slice 9 Kd.string) w A n rows) (k : Nat) (hk : k < rows.length) :
    ∃ ad A1 c1, A = some ad ∧ w.cell? (ad.add k) = some (.slice A1 rows[k].length c1) ∧ rows[k].length ≤ c1 ∧ Rd w A1 (rows[k].map Value.string) ∧ (∀ j (hj : j < rows[k].length), ∃ ad1, A1 = some ad1 ∧ w.cell? (ad1.add j) = some (.string rows[k][j])) := by
  have hn : rows.length = n := h.1
  obtain ⟨ad, c, hA, hcl, hK, hcc⟩ := Kd.C_get h [] (k : Int) (by omega) (by omega)
  rw [Int.toNat_natCast] at hK hcc
  have hg : rows.getD k [] = rows[k] := by rw [List.getD_eq_getElem?_getD, List.getElem?_eq_getElem hk]; rfl
  rw [hg] at hK
  obtain ⟨A1, c1, rfl, hl, hC⟩ := hK
  have hrd : Rd w A1 (rows[k].map Value.string) := by
    have := rd_of_C (d := Kd.string) (fun z => [Value.string z]) (by decide) (fun _ => rfl) (fun _ _ _ h => h) hC
    have e : ∀ l : List ByteArray, (l.flatMap fun z => [Value.string z]) = l.map Value.string := by
      intro l; induction l with
      | nil => rfl
      | cons x r ih => rw [List.flatMap_cons, ih]; rfl
    rw [e] at this
    exact this
  refine ⟨ad, A1, c1, hA, ?_, hl, hrd, fun j hj => ?_⟩
  · have := hcc 0 _ rfl
    simpa [Kd.slice] using this
  · obtain ⟨b, o, e1, hcell⟩ := hrd.at (by rw [List.length_map]; omega)
    subst e1
    exact ⟨_, rfl, hrd.news j _ (by rw [List.getElem?_map, List.getElem?_eq_getElem hj]; rfl)⟩
/-- Values that tell rows, as they lie in W. -/
def Told (W : World) (l : List (List ByteArray)) (vals : List Value) : Prop :=
  vals.length = l.length ∧ ∀ j (h : j < l.length), ∃ A c, vals[j]? = some (.slice A l[j].length c) ∧ l[j].length ≤ c ∧ Rd W A (l[j].map Value.string)
theorem Told.below {W W1 : World} {l : List (List ByteArray)} {vals : List Value} (h : Told W l vals) (hb : Below W.heap.size W W1) : Told W1 l vals :=
  ⟨h.1, fun j hj => by obtain ⟨A, c, h1, h2, h3⟩ := h.2 j hj; exact ⟨A, c, h1, h2, h3.below hb⟩⟩
theorem Told.snoc {W : World} {l : List (List ByteArray)} {vals : List Value} (h : Told W l vals) (r : List ByteArray) (A : Option Addr) (c : Nat) (hc : r.length ≤ c) (hr : Rd W A (r.map Value.string)) : Told W (l ++ [r]) (vals ++ [.slice A r.length c]) := by
  refine ⟨by simp [h.1], fun j hj => ?_⟩
  by_cases hz : j < l.length
  · obtain ⟨A, c, h1, h2, h3⟩ := h.2 j hz
    rw [List.getElem_append_left hz]
    exact ⟨A, c, by rw [List.getElem?_append_left (by rw [h.1]; exact hz)]; exact h1, h2, h3⟩
  · have e : j = l.length := by simp at hj; omega
    subst e
    rw [List.getElem_concat_length rfl]
    exact ⟨A, c, by rw [← h.1, List.getElem?_concat_length], hc, hr⟩
theorem Told.C {W : World} {l : List (List ByteArray)} {vals : List Value} {A : Option Addr} (h : Told W l vals) (hr : Rd W A vals) (hl : l.length ≤ 8) (hm : ∀ r ∈ l, r.length ≤ 8) : Kd.C (Kd.slice 9 Kd.string) W A l.length l := by
  refine ⟨rfl, by omega, fun hn => ?_⟩
  obtain ⟨b, o, rfl, hc⟩ := hr.at (by rw [h.1]; exact hn)
  refine ⟨⟨b, o, none⟩, rfl, fun j p hj => ?_⟩
  have hjl : j < l.length := (List.getElem?_eq_some_iff.1 hj).1
  obtain ⟨A1, c1, h1, h2, h3⟩ := h.2 j hjl
  have hp : l[j] = p := (List.getElem?_eq_some_iff.1 hj).2
  rw [hp] at h1 h2 h3
  refine ⟨[.slice A1 p.length c1], rfl, ⟨A1, c1, rfl, h2, C_of_rd (d := Kd.string) (fun z => [Value.string z]) (fun _ => rfl) (fun _ _ => rfl) ?_ (by have := hm p (hp ▸ List.getElem_mem hjl); omega) (by decide)⟩, fun i u hu => ?_⟩
  · have e : ∀ l : List ByteArray, (l.flatMap fun z => [Value.string z]) = l.map Value.string := by
      intro l; induction l with
      | nil => rfl
      | cons x r ih => rw [List.flatMap_cons, ih]; rfl
    rw [e]; exact h3
  · obtain rfl : i = 0 := by have := (List.getElem?_eq_some_iff.1 hu).1; simpa using this
    obtain rfl : Value.slice A1 p.length c1 = u := by simpa using hu
    exact hr.news _ _ (by simpa [Kd.slice] using h1)
theorem rd_take {W : World} {A : Option Addr} {l : List Value} (h : Rd W A l) (n : Nat) : Rd W A (l.take n) := by
  rcases h with rfl | ⟨b, o, hA, hc⟩
  · exact .inl (by simp)
  · exact .inr ⟨b, o, hA, fun j u hj => hc j u (by
      have := (List.getElem?_eq_some_iff.1 hj).1
      rw [List.length_take] at this
      rw [List.getElem?_take_of_lt (by omega)] at hj; exact hj)⟩
/-- The table as the law cuts it. -/
def cutT (rows : List (List ByteArray)) (k : Nat) : List (List ByteArray) := (rows.take k).map (·.take 8)
theorem cutT_succ (rows : List (List ByteArray)) (k : Nat) (h : k < rows.length) : cutT rows (k + 1) = cutT rows k ++ [rows[k].take 8] := by
  unfold cutT; rw [List.take_succ_eq_append_getElem h, List.map_append]; rfl
theorem mn_nat (a b : Nat) : mn (a : Int) (b : Int) = ((min a b : Nat) : Int) := by unfold mn; split <;> omega
theorem speaks_calls (W : World) (h : CelT W) : Calls Tryd.prog 7 #[] W fun e w' => e = .returned (.bool true) ∧ Below W.heap.size W w' := by
  obtain ⟨k, hk⟩ := speaks_ev.rounds
  exact graverlaw25_speaks.calls k true W h hk
theorem strs_flat (l : List ByteArray) : (l.flatMap fun z => [Value.string z]) = l.map Value.string := by
  induction l with
  | nil => rfl
  | cons x r ih => rw [List.flatMap_cons, ih]; rfl
theorem ints_flat (l : List Int) : (l.flatMap fun z => [Value.int .i64 z]) = l.map (Value.int .i64) := by
  induction l with
  | nil => rfl
  | cons x r ih => rw [List.flatMap_cons, ih]; rfl
theorem column_calls (L : List (List ByteArray)) (hL : L.length ≤ 8) (kk : Int) (hk : -9223372036854775808 ≤ kk ∧ kk ≤ 9223372036854775807) (va : Option Addr) (vc : Nat) (W : World) (hC : Kd.C (Kd.slice 9 Kd.string) W va L.length L) (hcap : L.length ≤ vc) :
    Calls Tryd.prog 17 #[.int .i64 kk, .slice va L.length vc] W fun e w' => ∃ A c, e = .returned (.slice A L.length c) ∧ Rd w' A ((L.map (colC kk)).map Value.string) ∧ Below W.heap.size W w' := by
  obtain ⟨k, hk⟩ := (column_ev kk L hL).rounds
  refine (cells_Column.calls k kk va vc L _ W hC hcap hk).mono ?_
  rintro e w' ⟨v, rfl, hR, hb⟩
  obtain ⟨A, c, he, _, hc⟩ := Kd.R_reads hR
  rw [List.length_map] at he
  have h := rd_of_C (d := Kd.string) (fun z => [Value.string z]) (by decide) (fun _ => rfl) (fun _ _ _ h => h) hc
  rw [strs_flat] at h
  exact ⟨A, c, by rw [he], h, hb⟩
theorem widths_calls (L : List (List ByteArray)) (hL : L.length ≤ 8) (hR : ∀ r ∈ L, r.length ≤ 8 ∧ ∀ s ∈ r, s.size ≤ 1000000000) (va : Option Addr) (vc : Nat) (W : World) (hC : Kd.C (Kd.slice 9 Kd.string) W va L.length L) (hcap : L.length ≤ vc) :
    Calls Tryd.prog 18 #[.slice va L.length vc] W fun e w' => ∃ A c, e = .returned (.slice A (mostN L) c) ∧ Rd w' A ((widR L).map (Value.int .i64)) ∧ Below W.heap.size W w' := by
  obtain ⟨k, hk⟩ := (widths_ev L hL hR).rounds
  refine (cells_Widths.calls k va vc L _ W hC hcap hk).mono ?_
  rintro e w' ⟨v, rfl, hR, hb⟩
  obtain ⟨A, c, he, _, hc⟩ := Kd.R_reads hR
  rw [widR_len] at he
  have h := rd_of_C (d := Kd.int .i64) (fun z => [Value.int .i64 z]) (by decide) (fun _ => rfl) (fun _ _ _ h => h) hc
  rw [ints_flat] at h
  exact ⟨A, c, by rw [he], h, hb⟩
set_option maxRecDepth 100000 in
set_option maxHeartbeats 2000000 in
theorem columns_any (rows : List (List ByteArray)) (hM : ∀ r ∈ rows, ∀ s ∈ r, s.size ≤ 1000000000) (kk : Int) (hk : -9223372036854775808 ≤ kk ∧ kk ≤ 9223372036854775807) (a : Option Addr) (c : Nat) (w : World) (hT : CelT w) (hr : Kd.C (Kd.slice 9 Kd.string) w a rows.length rows) :
    Calls Tryd.prog 6 #[.slice a rows.length c, .int .i64 kk] w fun e w' => e = .returned (.bool true) ∧ Below w.heap.size w w' := by
  have HR := Lib.hid hr
  have HT := Lib.hid hT
  clear hr hT
  obtain ⟨i0, hi, hz0, hz1, hz2⟩ := info_parts infoRow
  go_enter Tryd.func6, Tryd.ntmps6
  go_wp2_with (first | (go_at_call 7; refine (speaks_calls _ HT.out).mono ?_; rintro e w1 ⟨rfl, hb1⟩; have HB0 := Lib.hid hb1; clear hb1))
  go_loopw [5, 6, 7] (fun o m i wr => ∃ (k : Nat) (vals : List Value), k ≤ rows.length ∧ k ≤ 8 ∧ i = .int .i64 k ∧ m = .int .i64 ((mostN (cutT rows k) : Nat) : Int) ∧ Hid (wr.ownsRow w.heap.size 29 1 o k vals) ∧ Hid (Told w (cutT rows k) vals) ∧ Hid (Below w.heap.size w wr)) (fun _ _ i _ => 8 - (intOf i).toNat)
  case atStart => exact ⟨0, [], Nat.zero_le _, Nat.zero_le _, rfl, rfl, Lib.hid (World.ownsRow_nil _ _ _ _), Lib.hid ⟨rfl, fun j h => by simp [cutT] at h⟩, HB0⟩
  case round =>
    obtain ⟨k, vals, hk1, hk8, rfl, rfl, HO, HV, HB⟩ := hrel
    by_cases hlt : k < rows.length ∧ k < 8
    · obtain ⟨hl1, hl2⟩ := hlt
      obtain ⟨ad, A1, c1, hA, hcell, hcap, hrd, _⟩ := row_at2 HR.out k hl1
      subst hA
      have hcell2 := (HB.out.cell (World.block_lt_of_cell? w _ hcell)).trans hcell
      clear hcell
      obtain ⟨r, hr⟩ : ∃ r, r = rows[k] := ⟨_, rfl⟩
      have HS := Lib.hid (cutT_succ rows k hl1)
      rw [← hr] at hcell2 hcap hrd HS
      have hmn : (if (8 : Int) < (r.length : Int) then (8 : Int) else (r.length : Int)) = ((min r.length 8 : Nat) : Int) := by split <;> omega
      have hm2 : min r.length 8 ≤ r.length := Nat.min_le_left _ _
      have hm8 : min r.length 8 ≤ 8 := Nat.min_le_right _ _
      obtain ⟨m8, hm8e⟩ : ∃ m8, m8 = min r.length 8 := ⟨_, rfl⟩
      rw [← hm8e] at hmn hm2 hm8
      have HRD := Lib.hid hrd
      have HE := Lib.hid hm8e
      have HRR := Lib.hid hr
      clear hrd hm8e hr
      go_wp2
      go_quiet (fail)
      have HO1 := Lib.hid (ownsRow_below HO.out (Go.below_drewN (Below.refl _ _) nq))
      have HB1 := Lib.hid (Go.below_drewN HB.out nq)
      have hsz : w.heap.size ≤ (wr.drewN nq).heap.size := HB1.out.size
      go_wp2_with (first | (at_builtin; refine wpList_append_own _ rfl _ _ 28 rfl w.heap.size 29 i0 (.slice none 0 0) 1 24 Tryd.underlying28 hi hz0 hz1 hz2 rfl (by decide) _ _ _ rfl (HO1.out.alloc _) ⟨wr.heap.size, 0, none⟩ 1 1 [.slice A1 m8 c1] rfl rfl ?c1 ?c2 ?c3 ?c4 ?c5 ?_))
      case c1 => exact new_cells _ _ [_] _ (by simp)
      case c2 => intro u hu; simp at hu; subst hu; rfl
      case c3 => unfold maxLen; omega
      case c4 => omega
      case c5 => exact (HB1.out.alloc HB1.out.size _).size
      intro v' w2 hown' hgrow _
      have hb2 : Below w.heap.size w w2 := below_own (HB1.out.alloc HB1.out.size _) HO1.out hgrow (HB1.out.alloc HB1.out.size _).size (Nat.le_refl _)
      have HOW := Lib.hid hown'
      have HB2 := Lib.hid hb2
      clear hown' hgrow hb2
      go_wp2
      have hln : (r.take 8).length = m8 := by rw [List.length_take, HE.out]; omega
      refine ⟨⟨k + 1, vals ++ [.slice A1 m8 c1], by omega, by omega, by go_num, ?_, Lib.hid (by simpa using HOW.out), Lib.hid ?_, HB2⟩, by simp [intOf]; omega⟩
      · rw [HS.out, most_snoc, hln]
        congr 1
        split <;> omega
      · rw [HS.out, ← hln]
        exact HV.out.snoc (r.take 8) A1 c1 (by omega) (by rw [List.map_take]; exact rd_take HRD.out 8)
    · have hLl : (cutT rows k).length = k := by unfold cutT; rw [List.length_map, List.length_take]; omega
      have hLm : ∀ r ∈ cutT rows k, r.length ≤ 8 ∧ ∀ s ∈ r, s.size ≤ 1000000000 := by
        intro r hr
        obtain ⟨q, hq, rfl⟩ := List.mem_map.1 hr
        exact ⟨by rw [List.length_take]; omega, fun s hs => hM q (List.mem_of_mem_take hq) s (List.mem_of_mem_take hs)⟩
      obtain ⟨L, hLe⟩ : ∃ L, L = cutT rows k := ⟨_, rfl⟩
      have hx : (if k < rows.length then decide (k < 8) else false) = false := by
        split
        · exact decide_eq_false (by omega)
        · rfl
      rw [← hLe] at hLl hLm HV
      rw [← hLe]
      obtain ⟨va, vc, hv⟩ := Go.Proofs.YtipnoeffahnfaaaDoor.own_slice HO.out
      subst hv
      have hcap : k ≤ vc := by
        rcases HO.out.2 with ⟨hv, h0⟩ | ⟨g, cap, cur, hv, _, _, h2, _⟩
        · injection hv with _ _ h3; omega
        · injection hv with _ _ h3; omega
      have HC := Lib.hid (Told.C (HV.out.below HB.out) (Rd.of_own HO.out) (by omega) (fun r hr => (hLm r hr).1))
      have hL8 : L.length ≤ 8 := by omega
      clear hLe HO HV
      subst hLl
      have HL := Lib.hid hLm
      have HCO := Lib.hid (fun W hC => column_calls L hL8 kk hk va vc W hC hcap)
      have HWI := Lib.hid (fun W hC => widths_calls L hL8 hLm va vc W hC hcap)
      have hmost : mostN L ≤ 8 := most_small L 8 (fun r hr => (hLm r hr).1)
      clear hLm
      have hz : L.length < rows.length → ¬ L.length < 8 := by omega
      by_cases hlt2 : L.length < rows.length
      case' pos => replace hz := hz hlt2
      all_goals (
        go_wp2_with (first
          | (go_at_call 17; refine (HCO.out _ HC.out).mono ?_; rintro e w2 ⟨Ac, cc, rfl, hrc, hb1⟩; have HRC := Lib.hid hrc; have HB2 := Lib.hid (HB.out.trans (hb1.mono HB.out.size)); have HC2 := Lib.hid (Kd.C_below HC.out hb1); clear hrc hb1)
          | (go_at_call 18; refine (HWI.out _ HC2.out).mono ?_; rintro e w3 ⟨Aw, cw, rfl, hrw, hb1⟩; have HRW := Lib.hid hrw; have HB3 := Lib.hid (HB2.out.trans (hb1.mono HB2.out.size)); have HC3 := Lib.hid (Kd.C_below HC2.out hb1); have HRC3 := Lib.hid (HRC.out.below hb1); clear hrw hb1))
        go_loopw [11] (fun i wr => ∃ k : Nat, k ≤ L.length ∧ i = .int .i64 k ∧ Hid (Below w3.heap.size w3 wr)) (fun i _ => L.length - (intOf i).toNat)
        case atStart => exact ⟨0, Nat.zero_le _, rfl, Lib.hid (Below.refl _ _)⟩
        case round =>
          obtain ⟨k, hkL, rfl, HW⟩ := hrel
          by_cases hlt : k < L.length
          · obtain ⟨adL, A1, c1, hA, hcell, hcp, hrd, hel⟩ := row_at2 HC3.out k hlt
            subst hA
            obtain ⟨bc, oc, hAc, hcc0⟩ := HRC3.out.at (by rw [List.length_map, List.length_map]; omega)
            subst hAc
            have hcc := hcc0 k (.string (colC kk L[k])) (by rw [List.getElem?_map, List.getElem?_map, List.getElem?_eq_getElem hlt]; rfl)
            clear hcc0
            have hcell2 := (HW.out.cell (World.block_lt_of_cell? w3 _ hcell)).trans hcell
            have hcc2 := (HW.out.cell (World.block_lt_of_cell? w3 _ hcc)).trans hcc
            obtain ⟨r, hr⟩ : ∃ r, r = L[k] := ⟨_, rfl⟩
            have hr8 := (HL.out L[k] (List.getElem_mem hlt)).1
            rw [← hr] at hcell2 hcc2 hr8
            by_cases hk0 : 0 ≤ kk
            · obtain ⟨j, hj⟩ : ∃ j : Nat, kk = (j : Int) := ⟨kk.toNat, by omega⟩
              have HJ := Lib.hid hj
              by_cases hjr : j < r.length
              · obtain ⟨ad1, hA1, hel1⟩ := hel j (by rw [← hr]; exact hjr)
                subst hA1
                have hel2 := (HW.out.cell (World.block_lt_of_cell? w3 _ hel1)).trans hel1
                have hcol : colC kk r = r[j] := by unfold colC; rw [hj, if_pos ⟨by omega, by omega⟩, rdOf_in r j hjr]
                rw [hcol] at hcc2
                have hs : L[k][j]'(by rw [← hr]; exact hjr) = r[j] := by simp only [hr]
                rw [hs] at hel2
                obtain ⟨s, hse⟩ : ∃ s, s = r[j] := ⟨_, rfl⟩
                rw [← hse] at hel2 hcc2
                clear hel hel1 hcell hcc hrd hcol hs hse hr
                subst hj
                go_wp2
                go_roundw
                case rel => exact ⟨k + 1, by omega, by go_num, HW⟩
                case measure => simp [intOf]; omega
              · have hcol : colC kk r = ⟨#[]⟩ := by unfold colC; rw [hj, if_neg (by omega)]
                rw [hcol] at hcc2
                clear hel hcell hcc hrd hcol hr
                subst hj
                go_wp2
                go_roundw
                case rel => exact ⟨k + 1, by omega, by go_num, HW⟩
                case measure => simp [intOf]; omega
            · have hcol : colC kk r = ⟨#[]⟩ := by unfold colC; rw [if_neg (by omega)]
              rw [hcol] at hcc2
              clear hel hcell hcc hrd hcol hr
              go_wp2
              go_roundw
              case rel => exact ⟨k + 1, by omega, by go_num, HW⟩
              case measure => simp [intOf]; omega
          · obtain rfl : k = L.length := by omega
            go_wp2
            go_loopw [13] (fun i wr2 => ∃ k : Nat, k ≤ mostN L ∧ i = .int .i64 k ∧ Hid (Below w3.heap.size w3 wr2)) (fun i _ => mostN L - (intOf i).toNat)
            case atStart => exact ⟨0, Nat.zero_le _, rfl, HW⟩
            case round =>
              obtain ⟨k, hkM, rfl, HW2⟩ := hrel
              by_cases hlt : k < mostN L
              · go_wp2
                go_loopw [14, 15] (fun n i wr3 => ∃ q : Nat, q ≤ L.length ∧ i = .int .i64 q ∧ n = .int .i64 ((widJ (L.take q) k : Nat) : Int) ∧ Hid (Below w3.heap.size w3 wr3)) (fun _ i _ => L.length - (intOf i).toNat)
                case atStart => exact ⟨0, Nat.zero_le _, rfl, rfl, HW2⟩
                case round =>
                  obtain ⟨q, hq, rfl, rfl, HW3⟩ := hrel
                  by_cases hlq : q < L.length
                  · obtain ⟨adL, A1, c1, hA, hcell, hcp, hrd, hel⟩ := row_at2 HC3.out q hlq
                    subst hA
                    have hcell2 := (HW3.out.cell (World.block_lt_of_cell? w3 _ hcell)).trans hcell
                    obtain ⟨r, hr⟩ : ∃ r, r = L[q] := ⟨_, rfl⟩
                    have hrm := HL.out L[q] (List.getElem_mem hlq)
                    have HS := Lib.hid (show widJ (L.take (q + 1)) k = if h : k < r.length then max (widJ (L.take q) k) (clN r[k]) else widJ (L.take q) k by
                      rw [List.take_succ_eq_append_getElem hlq, wid_snoc, hr])
                    rw [← hr] at hcell2 hrm
                    have hr8 := hrm.1
                    obtain ⟨m, hm⟩ : ∃ m, m = widJ (L.take q) k := ⟨_, rfl⟩
                    rw [← hm] at HS
                    rw [← hm]
                    by_cases hkr : k < r.length
                    · obtain ⟨ad1, hA1, hel1⟩ := hel k (by rw [← hr]; exact hkr)
                      subst hA1
                      have hel2 := (HW3.out.cell (World.block_lt_of_cell? w3 _ hel1)).trans hel1
                      have hs : L[q][k]'(by rw [← hr]; exact hkr) = r[k] := by simp only [hr]
                      rw [hs] at hel2
                      have HS2 := Lib.hid (show widJ (L.take (q + 1)) k = max m (clN r[k]) by rw [HS.out, dif_pos hkr])
                      have hsz := hrm.2 r[k] (List.getElem_mem hkr)
                      obtain ⟨s, hse⟩ : ∃ s, s = r[k] := ⟨_, rfl⟩
                      rw [← hse] at hel2 HS2 hsz
                      have HCS := Lib.hid (fun W => cell_g s hsz W)
                      have HCL := Lib.hid (show clN s = (cellR s.data.toList).length from rfl)
                      clear hel hel1 hcell hrd hs hse hr hrm HS hm
                      go_wp2_with (first | (go_at_call 16; refine (HCS.out _).mono ?_; rintro e w4 ⟨rfl, hb1⟩; have HW4 := Lib.hid (HW3.out.trans (hb1.mono HW3.out.size)); clear hb1))
                      refine ⟨⟨q + 1, by omega, by go_num, ?_, HW4⟩, by simp [intOf]; omega⟩
                      rw [HS2.out, HCL.out]
                      congr 1
                      split <;> omega
                    · have HS2 := Lib.hid (show widJ (L.take (q + 1)) k = m by rw [HS.out, dif_neg hkr])
                      clear hel hcell hrd hr hrm HS hm
                      go_wp2
                      go_roundw
                      case rel => exact ⟨q + 1, by omega, by go_num, by rw [HS2.out], HW3⟩
                      case measure => simp [intOf]; omega
                  · obtain rfl : q = L.length := by omega
                    rw [List.take_length]
                    obtain ⟨bw, ow, hAw, hcw0⟩ := HRW.out.at (by rw [List.length_map, widR_len]; omega)
                    subst hAw
                    have hcw := hcw0 k (.int .i64 (widJ L k : Int)) (by rw [List.getElem?_map, List.getElem?_eq_getElem (by rw [widR_len]; exact hlt), widR_get]; rfl)
                    have hcw2 := (HW3.out.cell (World.block_lt_of_cell? w3 _ hcw)).trans hcw
                    clear hcw0 hcw
                    go_wp2
                    go_roundw
                    case rel => exact ⟨k + 1, by omega, by go_num, HW3⟩
                    case measure => simp [intOf]; omega
              · obtain rfl : k = mostN L := by omega
                go_wp2
                go_ret
                exact ⟨rfl, HB3.out.trans (HW2.out.mono HB3.out.size)⟩)
theorem columns_walk (rows : List (List ByteArray)) (a : Option Addr) (c : Nat) (kk : Int) (hk : -9223372036854775808 ≤ kk ∧ kk ≤ 9223372036854775807) (w : World) (hT : CelT w) (hM : ∀ r ∈ rows, ∀ s ∈ r, s.size ≤ 1048576) (hc : rows.length ≤ c) (hr : Kd.C (Kd.slice 9 Kd.string) w a rows.length rows) :
    Calls Tryd.prog 6 #[.slice a rows.length c, .int .i64 kk] w fun e w' => e = .returned (.bool true) ∧ Below w.heap.size w w' :=
  columns_any rows (fun r hr s hs => Nat.le_trans (hM r hr s hs) (by decide)) kk hk a c w hT hr
end Go.Proofs.YtipnoeffahnfaaaDoor

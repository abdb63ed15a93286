/- Contracts over this translation: the document's Row. -/
import Derived.Test.YtipnoeffahnfaaaDoorCelG
import Derived.Laws.DeepStrings4
namespace Go.Proofs.YtipnoeffahnfaaaDoor
set_option linter.unusedVariables false
set_option linter.unusedSimpArgs false
open Go.RowKit Go.Proofs.YtipnoeffahnfaaaDoorW.PrintWords

theorem caps_slice (n : Nat) (hn : n < 16) (W : World) : (Instr.slice 9 (.string ⟨#[48, 49, 50, 51, 52, 53, 54, 55, 56, 57, 65, 66, 67, 68, 69, 70]⟩) (some (.int .u8 (n : Int))) (some (.int .u8 ((n : Int) + 1))) none).run Tryd.prog W = .ok (.string ⟨#[capD n]⟩) W := by
  obtain rfl | rfl | rfl | rfl | rfl | rfl | rfl | rfl | rfl | rfl | rfl | rfl | rfl | rfl | rfl | rfl : n = 0 ∨ n = 1 ∨ n = 2 ∨ n = 3 ∨ n = 4 ∨ n = 5 ∨ n = 6 ∨ n = 7 ∨ n = 8 ∨ n = 9 ∨ n = 10 ∨ n = 11 ∨ n = 12 ∨ n = 13 ∨ n = 14 ∨ n = 15 := by omega
  all_goals kernel_rfl
theorem line_snoc (L : List (List UInt8)) (k : Nat) (h : k < L.length) : lineC (L.take (k + 1)) = (if k = 0 then [] else lineC (L.take k) ++ [32]) ++ cellR L[k] := by
  have key : ∀ (xs : List (List UInt8)) (y : List UInt8), [(32 : UInt8)].intercalate (xs ++ [y]) = (if xs = [] then [] else [32].intercalate xs ++ [32]) ++ y := by
    intro xs y
    induction xs with
    | nil => simp [List.intercalate]
    | cons x r ih =>
      cases r with
      | nil => simp [List.intercalate]
      | cons z r =>
        have e1 : [(32 : UInt8)].intercalate (x :: z :: r ++ [y]) = x ++ 32 :: [32].intercalate (z :: r ++ [y]) := by simp [List.intercalate]
        have e2 : [(32 : UInt8)].intercalate (x :: z :: r) = x ++ 32 :: [32].intercalate (z :: r) := by simp [List.intercalate]
        rw [e1, ih, e2]; simp
  unfold lineC
  rw [List.take_succ_eq_append_getElem h, List.map_append, List.map_cons, List.map_nil, key]
  congr 1
  by_cases hk : k = 0
  · subst hk; simp
  · rw [if_neg hk, if_neg]
    intro h2
    have := congrArg List.length h2
    rw [List.length_map, List.length_take, List.length_nil] at this
    omega
def startC (L : List (List UInt8)) (k : Nat) (x : List UInt8) : List UInt8 := (if k = 0 then [] else lineC (L.take k) ++ [32]) ++ (if x = [] then [37] else [])
theorem start_cell (L : List (List UInt8)) (k : Nat) (h : k < L.length) : startC L k L[k] ++ L[k].flatMap encC = lineC (L.take (k + 1)) := by
  rw [line_snoc L k h]
  unfold startC cellR
  generalize L[k] = x
  by_cases hx : x = []
  · subst hx; simp
  · rw [if_neg hx, if_neg hx]; simp
theorem start_len (L : List (List UInt8)) (k : Nat) (h : k < L.length) (hL : L.length ≤ 1000) (hM : ∀ x ∈ L, x.length ≤ 1000) : (startC L k L[k]).length ≤ 4000000 := by
  have h1 := line_len (L.take k) 1000 (fun x hx => hM x (List.mem_of_mem_take hx))
  rw [List.length_take] at h1
  have h2 : min k L.length * (3 * 1000 + 2) ≤ 1000 * (3 * 1000 + 2) := Nat.mul_le_mul_right _ (by omega)
  unfold startC
  rw [List.length_append]
  split <;> split <;> simp <;> omega
set_option maxRecDepth 100000 in
set_option maxHeartbeats 2000000 in
theorem refRow_any (L : List (List UInt8)) (hL : L.length ≤ 1000) (hM : ∀ x ∈ L, x.length ≤ 1000) (a : Option Addr) (c : Nat) (w : World) (hr : Rd w a (L.map strV)) :
    Calls Tryd.prog 12 #[.slice a L.length c] w fun e w' => e = .returned (.string ⟨(lineC L ++ [10]).toArray⟩) ∧ Below w.heap.size w w' := by
  have HR := Lib.hid hr
  have HM := Lib.hid hM
  clear hr hM
  go_enter Tryd.func12, Tryd.ntmps12
  go_wp2
  go_loopw [4, 5] (fun s i wr => ∃ k : Nat, k ≤ L.length ∧ i = .int .i64 k ∧ s = .string ⟨(lineC (L.take k)).toArray⟩ ∧ Hid (Below w.heap.size w wr)) (fun _ i _ => L.length - (intOf i).toNat)
  case atStart => exact ⟨0, Nat.zero_le _, rfl, rfl, Lib.hid (Below.refl _ _)⟩
  case round =>
    obtain ⟨k, hk, rfl, rfl, HB⟩ := hrel
    by_cases hlt : k < L.length
    · obtain ⟨x, hx⟩ : ∃ x, x = L[k] := ⟨_, rfl⟩
      obtain ⟨b0, o0, hbo, hcl⟩ := (HR.out.below HB.out).at (by rw [List.length_map]; omega)
      subst hbo
      have q0 := hcl k (.string ⟨x.toArray⟩) (by rw [List.getElem?_map, List.getElem?_eq_getElem hlt, hx]; rfl)
      have hxl : x.length ≤ 1000 := by rw [hx]; exact HM.out _ (List.getElem_mem hlt)
      have HQ := Lib.hid (fun W (hW : Below wr.heap.size wr W) => (show W.cell? ⟨b0, o0 + k, none⟩ = some (.string ⟨x.toArray⟩) from (hW.cell (cell_lt q0)).trans q0))
      have hst := start_len L k hlt hL HM.out
      have hsc := start_cell L k hlt
      rw [← hx] at hst hsc
      obtain ⟨B0, hB0⟩ : ∃ B0, B0 = startC L k x := ⟨_, rfl⟩
      obtain ⟨T, hT⟩ : ∃ T, T = lineC (L.take k) := ⟨_, rfl⟩
      rw [← hB0] at hst hsc
      rw [← hT]
      have htl : T.length ≤ 4000000 := by
        have h1 := line_len (L.take k) 1000 (fun x hx => HM.out x (List.mem_of_mem_take hx))
        rw [List.length_take, ← hT] at h1
        have h2 : min k L.length * (3 * 1000 + 2) ≤ 1000 * (3 * 1000 + 2) := Nat.mul_le_mul_right _ (by omega)
        omega
      have HSC := Lib.hid hsc
      have HB00 := Lib.hid (show B0 = (if k = 0 then [] else T ++ [32]) ++ (if x = [] then [37] else []) by rw [hB0, hT]; rfl)
      have HT0 := Lib.hid (show k = 0 → T = [] from fun h => by rw [hT, h]; rfl)
      clear hx hcl hsc hB0 hT
      obtain ⟨wo, rfl⟩ : ∃ wo : World, wo = wr := ⟨_, rfl⟩
      by_cases hk0 : k = 0 <;> by_cases hx0 : x = []
      · have hkI : ¬ (0 : Int) < (k : Int) := by omega
        have hxe : x.isEmpty = true := by rw [hx0]; rfl
        have hc1 : (⟨T.toArray⟩ : ByteArray) ++ (⟨#[37]⟩ : ByteArray) = ⟨B0.toArray⟩ := by rw [cat_end, HB00.out, if_pos hk0, if_pos hx0, HT0.out hk0]
        clear hk0 hx0
        go_wp2
        clear hc1 hkI hxe
        go_loopw [4, 6] (fun s j wr => ∃ n : Nat, n ≤ x.length ∧ j = .int .i64 n ∧ s = .string ⟨(B0 ++ (x.take n).flatMap encC).toArray⟩ ∧ Hid (Below wo.heap.size wo wr)) (fun _ j _ => x.length - (intOf j).toNat)
        case atStart => exact ⟨0, Nat.zero_le _, rfl, by simp, Lib.hid (Below.refl _ _)⟩
        case round =>
          obtain ⟨n, hn, rfl, rfl, HW⟩ := hrel
          have q1 := HQ.out _ HW.out
          obtain ⟨S, hS⟩ : ∃ S, S = B0 ++ (x.take n).flatMap encC := ⟨_, rfl⟩
          rw [← hS]
          have hSl : S.length ≤ 4003000 := by
            have := flat_enc_len (x.take n)
            rw [List.length_take] at this
            rw [hS, List.length_append]; omega
          have HS := Lib.hid hS
          clear hS
          by_cases hnl : n < x.length
          · obtain ⟨c, hc⟩ : ∃ c, c = x[n] := ⟨_, rfl⟩
            have i0 := fun W => str_index x n c hnl hc W
            have he : (⟨x.toArray⟩ : ByteArray).extract n (n + 1) = ⟨#[c]⟩ := by
              rw [ext_list, List.drop_eq_getElem_cons hnl, show n + 1 - n = 1 by omega, hc]; rfl
            have HSN := Lib.hid (show B0 ++ (x.take (n + 1)).flatMap encC = S ++ encC c by rw [flat_snoc x n hnl, HS.out, hc, List.append_assoc])
            have hc256 := c.toNat_lt
            clear hc
            by_cases hpl : plainB c = true
            · have HE := Lib.hid (show encC c = [c] from if_pos hpl)
              have hp := hpl
              unfold plainB at hp
              simp only [Bool.and_eq_true, decide_eq_true_eq, Bool.not_eq_true', beq_eq_false_iff_ne] at hp
              have g1 : (32 : Int) < (c.toNat : Int) := by omega
              have g2 : (c.toNat : Int) < 127 := by omega
              have g3 : (((c.toNat : Int)) != 37) = true := by
                rw [bne_iff_ne]; intro h; exact hp.2 (UInt8.toNat_inj.1 (by show c.toNat = 37; omega))
              have hc9 := cat_end S c
              clear hp hpl
              go_wp2
              go_roundw
              case rel => exact ⟨n + 1, by omega, by go_num, by rw [HSN.out, HE.out], HW⟩
              case measure => simp [intOf]; omega
            · obtain ⟨n1, hn1⟩ : ∃ n1, n1 = c.toNat / 16 := ⟨_, rfl⟩
              obtain ⟨n2, hn2⟩ : ∃ n2, n2 = c.toNat % 16 := ⟨_, rfl⟩
              have HE := Lib.hid (show encC c = [37, capD n1, capD n2] by rw [hn1, hn2]; exact if_neg hpl)
              have k1 := fun W => caps_slice n1 (by omega) W
              have k2 := fun W => caps_slice n2 (by omega) W
              have t1 : Int.tdiv (c.toNat : Int) 16 = (n1 : Int) := by rw [hn1]; rfl
              have t2 : Int.tmod (c.toNat : Int) 16 = (n2 : Int) := by rw [hn2]; rfl
              have t3 : (c.toNat : Int) / 16 = (n1 : Int) := by rw [hn1]; rfl
              have t4 : (c.toNat : Int) % 16 = (n2 : Int) := by rw [hn2]; rfl
              have t5 : IntKind.u8.wrap (n1 : Int) = (n1 : Int) := by rw [IntKind.wrap_u8]; omega
              have t6 : IntKind.u8.wrap ((n1 : Int) + 1) = (n1 : Int) + 1 := by rw [IntKind.wrap_u8]; omega
              have t7 : IntKind.u8.wrap ((n2 : Int) + 1) = (n2 : Int) + 1 := by rw [IntKind.wrap_u8]; omega
              have c1 : (⟨#[37]⟩ : ByteArray) ++ (⟨#[capD n1]⟩ : ByteArray) = ⟨#[37, capD n1]⟩ := rfl
              have c2 : (⟨#[37, capD n1]⟩ : ByteArray) ++ (⟨#[capD n2]⟩ : ByteArray) = ⟨#[37, capD n1, capD n2]⟩ := rfl
              have c3 : (⟨S.toArray⟩ : ByteArray) ++ (⟨#[37, capD n1, capD n2]⟩ : ByteArray) = ⟨(S ++ [37, capD n1, capD n2]).toArray⟩ := by
                apply ByteArray.ext; rw [ByteArray.data_append]; apply Array.ext'; simp
              clear hn1 hn2
              by_cases h1 : 32 < c.toNat
              · have g1 : (32 : Int) < (c.toNat : Int) := by omega
                by_cases h2 : c.toNat < 127
                · have g2 : (c.toNat : Int) < 127 := by omega
                  have h3 : c.toNat = 37 := by
                    rcases Nat.decEq c.toNat 37 with h | h
                    · exfalso; apply hpl; unfold plainB
                      rw [decide_eq_true (by omega : 33 ≤ c.toNat), decide_eq_true (by omega : c.toNat ≤ 126)]
                      have : (c == 37) = false := by
                        rw [beq_eq_false_iff_ne]; rintro rfl; exact h rfl
                      rw [this]; rfl
                    · exact h
                  have g3 : (((c.toNat : Int)) != 37) = false := by rw [h3]; rfl
                  clear hpl h3
                  go_wp2
                  go_quiet (fail)
                  clear k1 k2 t1 t2 t3 t4 t5 t6 t7 c1 c2 c3
                  go_wp2
                  go_roundw
                  case rel => exact ⟨n + 1, by omega, by go_num, by rw [HSN.out, HE.out], Lib.hid (Go.below_drewN HW.out _)⟩
                  case measure => simp [intOf]; omega
                · have g2 : ¬ (c.toNat : Int) < 127 := by omega
                  clear hpl
                  go_wp2
                  go_quiet (fail)
                  clear k1 k2 t1 t2 t3 t4 t5 t6 t7 c1 c2 c3
                  go_wp2
                  go_roundw
                  case rel => exact ⟨n + 1, by omega, by go_num, by rw [HSN.out, HE.out], Lib.hid (Go.below_drewN HW.out _)⟩
                  case measure => simp [intOf]; omega
              · have g1 : ¬ (32 : Int) < (c.toNat : Int) := by omega
                clear hpl
                go_wp2
                go_quiet (fail)
                clear k1 k2 t1 t2 t3 t4 t5 t6 t7 c1 c2 c3
                go_wp2
                go_roundw
                case rel => exact ⟨n + 1, by omega, by go_num, by rw [HSN.out, HE.out], Lib.hid (Go.below_drewN HW.out _)⟩
                case measure => simp [intOf]; omega
          · obtain rfl : n = x.length := by omega
            have HE := Lib.hid (show S = lineC (L.take (k + 1)) by rw [HS.out, List.take_length]; exact HSC.out)
            go_wp2
            go_roundw
            case rel => exact ⟨k + 1, by omega, by go_num, by rw [HE.out], Lib.hid (HB.out.trans (HW.out.mono HB.out.size))⟩
            case measure => simp [intOf]; omega
      · have hkI : ¬ (0 : Int) < (k : Int) := by omega
        have hxe : x.isEmpty = false := Bool.eq_false_iff.2 (fun h => hx0 (List.isEmpty_iff.1 h))
        obtain rfl : B0 = T := by rw [HB00.out, if_pos hk0, if_neg hx0, HT0.out hk0]; rfl
        clear hk0 hx0
        go_wp2
        clear hkI hxe
        go_loopw [4, 6] (fun s j wr => ∃ n : Nat, n ≤ x.length ∧ j = .int .i64 n ∧ s = .string ⟨(B0 ++ (x.take n).flatMap encC).toArray⟩ ∧ Hid (Below wo.heap.size wo wr)) (fun _ j _ => x.length - (intOf j).toNat)
        case atStart => exact ⟨0, Nat.zero_le _, rfl, by simp, Lib.hid (Below.refl _ _)⟩
        case round =>
          obtain ⟨n, hn, rfl, rfl, HW⟩ := hrel
          have q1 := HQ.out _ HW.out
          obtain ⟨S, hS⟩ : ∃ S, S = B0 ++ (x.take n).flatMap encC := ⟨_, rfl⟩
          rw [← hS]
          have hSl : S.length ≤ 4003000 := by
            have := flat_enc_len (x.take n)
            rw [List.length_take] at this
            rw [hS, List.length_append]; omega
          have HS := Lib.hid hS
          clear hS
          by_cases hnl : n < x.length
          · obtain ⟨c, hc⟩ : ∃ c, c = x[n] := ⟨_, rfl⟩
            have i0 := fun W => str_index x n c hnl hc W
            have he : (⟨x.toArray⟩ : ByteArray).extract n (n + 1) = ⟨#[c]⟩ := by
              rw [ext_list, List.drop_eq_getElem_cons hnl, show n + 1 - n = 1 by omega, hc]; rfl
            have HSN := Lib.hid (show B0 ++ (x.take (n + 1)).flatMap encC = S ++ encC c by rw [flat_snoc x n hnl, HS.out, hc, List.append_assoc])
            have hc256 := c.toNat_lt
            clear hc
            by_cases hpl : plainB c = true
            · have HE := Lib.hid (show encC c = [c] from if_pos hpl)
              have hp := hpl
              unfold plainB at hp
              simp only [Bool.and_eq_true, decide_eq_true_eq, Bool.not_eq_true', beq_eq_false_iff_ne] at hp
              have g1 : (32 : Int) < (c.toNat : Int) := by omega
              have g2 : (c.toNat : Int) < 127 := by omega
              have g3 : (((c.toNat : Int)) != 37) = true := by
                rw [bne_iff_ne]; intro h; exact hp.2 (UInt8.toNat_inj.1 (by show c.toNat = 37; omega))
              have hc9 := cat_end S c
              clear hp hpl
              go_wp2
              go_roundw
              case rel => exact ⟨n + 1, by omega, by go_num, by rw [HSN.out, HE.out], HW⟩
              case measure => simp [intOf]; omega
            · obtain ⟨n1, hn1⟩ : ∃ n1, n1 = c.toNat / 16 := ⟨_, rfl⟩
              obtain ⟨n2, hn2⟩ : ∃ n2, n2 = c.toNat % 16 := ⟨_, rfl⟩
              have HE := Lib.hid (show encC c = [37, capD n1, capD n2] by rw [hn1, hn2]; exact if_neg hpl)
              have k1 := fun W => caps_slice n1 (by omega) W
              have k2 := fun W => caps_slice n2 (by omega) W
              have t1 : Int.tdiv (c.toNat : Int) 16 = (n1 : Int) := by rw [hn1]; rfl
              have t2 : Int.tmod (c.toNat : Int) 16 = (n2 : Int) := by rw [hn2]; rfl
              have t3 : (c.toNat : Int) / 16 = (n1 : Int) := by rw [hn1]; rfl
              have t4 : (c.toNat : Int) % 16 = (n2 : Int) := by rw [hn2]; rfl
              have t5 : IntKind.u8.wrap (n1 : Int) = (n1 : Int) := by rw [IntKind.wrap_u8]; omega
              have t6 : IntKind.u8.wrap ((n1 : Int) + 1) = (n1 : Int) + 1 := by rw [IntKind.wrap_u8]; omega
              have t7 : IntKind.u8.wrap ((n2 : Int) + 1) = (n2 : Int) + 1 := by rw [IntKind.wrap_u8]; omega
              have c1 : (⟨#[37]⟩ : ByteArray) ++ (⟨#[capD n1]⟩ : ByteArray) = ⟨#[37, capD n1]⟩ := rfl
              have c2 : (⟨#[37, capD n1]⟩ : ByteArray) ++ (⟨#[capD n2]⟩ : ByteArray) = ⟨#[37, capD n1, capD n2]⟩ := rfl
              have c3 : (⟨S.toArray⟩ : ByteArray) ++ (⟨#[37, capD n1, capD n2]⟩ : ByteArray) = ⟨(S ++ [37, capD n1, capD n2]).toArray⟩ := by
                apply ByteArray.ext; rw [ByteArray.data_append]; apply Array.ext'; simp
              clear hn1 hn2
              by_cases h1 : 32 < c.toNat
              · have g1 : (32 : Int) < (c.toNat : Int) := by omega
                by_cases h2 : c.toNat < 127
                · have g2 : (c.toNat : Int) < 127 := by omega
                  have h3 : c.toNat = 37 := by
                    rcases Nat.decEq c.toNat 37 with h | h
                    · exfalso; apply hpl; unfold plainB
                      rw [decide_eq_true (by omega : 33 ≤ c.toNat), decide_eq_true (by omega : c.toNat ≤ 126)]
                      have : (c == 37) = false := by
                        rw [beq_eq_false_iff_ne]; rintro rfl; exact h rfl
                      rw [this]; rfl
                    · exact h
                  have g3 : (((c.toNat : Int)) != 37) = false := by rw [h3]; rfl
                  clear hpl h3
                  go_wp2
                  go_quiet (fail)
                  clear k1 k2 t1 t2 t3 t4 t5 t6 t7 c1 c2 c3
                  go_wp2
                  go_roundw
                  case rel => exact ⟨n + 1, by omega, by go_num, by rw [HSN.out, HE.out], Lib.hid (Go.below_drewN HW.out _)⟩
                  case measure => simp [intOf]; omega
                · have g2 : ¬ (c.toNat : Int) < 127 := by omega
                  clear hpl
                  go_wp2
                  go_quiet (fail)
                  clear k1 k2 t1 t2 t3 t4 t5 t6 t7 c1 c2 c3
                  go_wp2
                  go_roundw
                  case rel => exact ⟨n + 1, by omega, by go_num, by rw [HSN.out, HE.out], Lib.hid (Go.below_drewN HW.out _)⟩
                  case measure => simp [intOf]; omega
              · have g1 : ¬ (32 : Int) < (c.toNat : Int) := by omega
                clear hpl
                go_wp2
                go_quiet (fail)
                clear k1 k2 t1 t2 t3 t4 t5 t6 t7 c1 c2 c3
                go_wp2
                go_roundw
                case rel => exact ⟨n + 1, by omega, by go_num, by rw [HSN.out, HE.out], Lib.hid (Go.below_drewN HW.out _)⟩
                case measure => simp [intOf]; omega
          · obtain rfl : n = x.length := by omega
            have HE := Lib.hid (show S = lineC (L.take (k + 1)) by rw [HS.out, List.take_length]; exact HSC.out)
            go_wp2
            go_roundw
            case rel => exact ⟨k + 1, by omega, by go_num, by rw [HE.out], Lib.hid (HB.out.trans (HW.out.mono HB.out.size))⟩
            case measure => simp [intOf]; omega
      · have hkI : (0 : Int) < (k : Int) := by omega
        have hkd : decide ((0 : Int) < (k : Int)) = true := decide_eq_true hkI
        have hkn : decide (0 < k) = true := decide_eq_true (by omega)
        have hxe : x.isEmpty = true := by rw [hx0]; rfl
        have hc1 : (⟨T.toArray⟩ : ByteArray) ++ (⟨#[32]⟩ : ByteArray) = ⟨(T ++ [32]).toArray⟩ := cat_end T 32
        have hc2 : (⟨(T ++ [32]).toArray⟩ : ByteArray) ++ (⟨#[37]⟩ : ByteArray) = ⟨B0.toArray⟩ := by rw [cat_end, HB00.out, if_neg hk0, if_pos hx0]
        clear hk0 hx0
        go_wp2
        clear hc1 hc2 hkI hxe hkd hkn
        go_loopw [4, 6] (fun s j wr => ∃ n : Nat, n ≤ x.length ∧ j = .int .i64 n ∧ s = .string ⟨(B0 ++ (x.take n).flatMap encC).toArray⟩ ∧ Hid (Below wo.heap.size wo wr)) (fun _ j _ => x.length - (intOf j).toNat)
        case atStart => exact ⟨0, Nat.zero_le _, rfl, by simp, Lib.hid (Below.refl _ _)⟩
        case round =>
          obtain ⟨n, hn, rfl, rfl, HW⟩ := hrel
          have q1 := HQ.out _ HW.out
          obtain ⟨S, hS⟩ : ∃ S, S = B0 ++ (x.take n).flatMap encC := ⟨_, rfl⟩
          rw [← hS]
          have hSl : S.length ≤ 4003000 := by
            have := flat_enc_len (x.take n)
            rw [List.length_take] at this
            rw [hS, List.length_append]; omega
          have HS := Lib.hid hS
          clear hS
          by_cases hnl : n < x.length
          · obtain ⟨c, hc⟩ : ∃ c, c = x[n] := ⟨_, rfl⟩
            have i0 := fun W => str_index x n c hnl hc W
            have he : (⟨x.toArray⟩ : ByteArray).extract n (n + 1) = ⟨#[c]⟩ := by
              rw [ext_list, List.drop_eq_getElem_cons hnl, show n + 1 - n = 1 by omega, hc]; rfl
            have HSN := Lib.hid (show B0 ++ (x.take (n + 1)).flatMap encC = S ++ encC c by rw [flat_snoc x n hnl, HS.out, hc, List.append_assoc])
            have hc256 := c.toNat_lt
            clear hc
            by_cases hpl : plainB c = true
            · have HE := Lib.hid (show encC c = [c] from if_pos hpl)
              have hp := hpl
              unfold plainB at hp
              simp only [Bool.and_eq_true, decide_eq_true_eq, Bool.not_eq_true', beq_eq_false_iff_ne] at hp
              have g1 : (32 : Int) < (c.toNat : Int) := by omega
              have g2 : (c.toNat : Int) < 127 := by omega
              have g3 : (((c.toNat : Int)) != 37) = true := by
                rw [bne_iff_ne]; intro h; exact hp.2 (UInt8.toNat_inj.1 (by show c.toNat = 37; omega))
              have hc9 := cat_end S c
              clear hp hpl
              go_wp2
              go_roundw
              case rel => exact ⟨n + 1, by omega, by go_num, by rw [HSN.out, HE.out], HW⟩
              case measure => simp [intOf]; omega
            · obtain ⟨n1, hn1⟩ : ∃ n1, n1 = c.toNat / 16 := ⟨_, rfl⟩
              obtain ⟨n2, hn2⟩ : ∃ n2, n2 = c.toNat % 16 := ⟨_, rfl⟩
              have HE := Lib.hid (show encC c = [37, capD n1, capD n2] by rw [hn1, hn2]; exact if_neg hpl)
              have k1 := fun W => caps_slice n1 (by omega) W
              have k2 := fun W => caps_slice n2 (by omega) W
              have t1 : Int.tdiv (c.toNat : Int) 16 = (n1 : Int) := by rw [hn1]; rfl
              have t2 : Int.tmod (c.toNat : Int) 16 = (n2 : Int) := by rw [hn2]; rfl
              have t3 : (c.toNat : Int) / 16 = (n1 : Int) := by rw [hn1]; rfl
              have t4 : (c.toNat : Int) % 16 = (n2 : Int) := by rw [hn2]; rfl
              have t5 : IntKind.u8.wrap (n1 : Int) = (n1 : Int) := by rw [IntKind.wrap_u8]; omega
              have t6 : IntKind.u8.wrap ((n1 : Int) + 1) = (n1 : Int) + 1 := by rw [IntKind.wrap_u8]; omega
              have t7 : IntKind.u8.wrap ((n2 : Int) + 1) = (n2 : Int) + 1 := by rw [IntKind.wrap_u8]; omega
              have c1 : (⟨#[37]⟩ : ByteArray) ++ (⟨#[capD n1]⟩ : ByteArray) = ⟨#[37, capD n1]⟩ := rfl
              have c2 : (⟨#[37, capD n1]⟩ : ByteArray) ++ (⟨#[capD n2]⟩ : ByteArray) = ⟨#[37, capD n1, capD n2]⟩ := rfl
              have c3 : (⟨S.toArray⟩ : ByteArray) ++ (⟨#[37, capD n1, capD n2]⟩ : ByteArray) = ⟨(S ++ [37, capD n1, capD n2]).toArray⟩ := by
                apply ByteArray.ext; rw [ByteArray.data_append]; apply Array.ext'; simp
              clear hn1 hn2
              by_cases h1 : 32 < c.toNat
              · have g1 : (32 : Int) < (c.toNat : Int) := by omega
                by_cases h2 : c.toNat < 127
                · have g2 : (c.toNat : Int) < 127 := by omega
                  have h3 : c.toNat = 37 := by
                    rcases Nat.decEq c.toNat 37 with h | h
                    · exfalso; apply hpl; unfold plainB
                      rw [decide_eq_true (by omega : 33 ≤ c.toNat), decide_eq_true (by omega : c.toNat ≤ 126)]
                      have : (c == 37) = false := by
                        rw [beq_eq_false_iff_ne]; rintro rfl; exact h rfl
                      rw [this]; rfl
                    · exact h
                  have g3 : (((c.toNat : Int)) != 37) = false := by rw [h3]; rfl
                  clear hpl h3
                  go_wp2
                  go_quiet (fail)
                  clear k1 k2 t1 t2 t3 t4 t5 t6 t7 c1 c2 c3
                  go_wp2
                  go_roundw
                  case rel => exact ⟨n + 1, by omega, by go_num, by rw [HSN.out, HE.out], Lib.hid (Go.below_drewN HW.out _)⟩
                  case measure => simp [intOf]; omega
                · have g2 : ¬ (c.toNat : Int) < 127 := by omega
                  clear hpl
                  go_wp2
                  go_quiet (fail)
                  clear k1 k2 t1 t2 t3 t4 t5 t6 t7 c1 c2 c3
                  go_wp2
                  go_roundw
                  case rel => exact ⟨n + 1, by omega, by go_num, by rw [HSN.out, HE.out], Lib.hid (Go.below_drewN HW.out _)⟩
                  case measure => simp [intOf]; omega
              · have g1 : ¬ (32 : Int) < (c.toNat : Int) := by omega
                clear hpl
                go_wp2
                go_quiet (fail)
                clear k1 k2 t1 t2 t3 t4 t5 t6 t7 c1 c2 c3
                go_wp2
                go_roundw
                case rel => exact ⟨n + 1, by omega, by go_num, by rw [HSN.out, HE.out], Lib.hid (Go.below_drewN HW.out _)⟩
                case measure => simp [intOf]; omega
          · obtain rfl : n = x.length := by omega
            have HE := Lib.hid (show S = lineC (L.take (k + 1)) by rw [HS.out, List.take_length]; exact HSC.out)
            go_wp2
            go_roundw
            case rel => exact ⟨k + 1, by omega, by go_num, by rw [HE.out], Lib.hid (HB.out.trans (HW.out.mono HB.out.size))⟩
            case measure => simp [intOf]; omega
      · have hkI : (0 : Int) < (k : Int) := by omega
        have hkd : decide ((0 : Int) < (k : Int)) = true := decide_eq_true hkI
        have hkn : decide (0 < k) = true := decide_eq_true (by omega)
        have hxe : x.isEmpty = false := Bool.eq_false_iff.2 (fun h => hx0 (List.isEmpty_iff.1 h))
        have hc1 : (⟨T.toArray⟩ : ByteArray) ++ (⟨#[32]⟩ : ByteArray) = ⟨B0.toArray⟩ := by rw [cat_end, HB00.out, if_neg hk0, if_neg hx0]; simp
        clear hk0 hx0
        go_wp2
        clear hc1 hkI hxe hkd hkn
        go_loopw [4, 6] (fun s j wr => ∃ n : Nat, n ≤ x.length ∧ j = .int .i64 n ∧ s = .string ⟨(B0 ++ (x.take n).flatMap encC).toArray⟩ ∧ Hid (Below wo.heap.size wo wr)) (fun _ j _ => x.length - (intOf j).toNat)
        case atStart => exact ⟨0, Nat.zero_le _, rfl, by simp, Lib.hid (Below.refl _ _)⟩
        case round =>
          obtain ⟨n, hn, rfl, rfl, HW⟩ := hrel
          have q1 := HQ.out _ HW.out
          obtain ⟨S, hS⟩ : ∃ S, S = B0 ++ (x.take n).flatMap encC := ⟨_, rfl⟩
          rw [← hS]
          have hSl : S.length ≤ 4003000 := by
            have := flat_enc_len (x.take n)
            rw [List.length_take] at this
            rw [hS, List.length_append]; omega
          have HS := Lib.hid hS
          clear hS
          by_cases hnl : n < x.length
          · obtain ⟨c, hc⟩ : ∃ c, c = x[n] := ⟨_, rfl⟩
            have i0 := fun W => str_index x n c hnl hc W
            have he : (⟨x.toArray⟩ : ByteArray).extract n (n + 1) = ⟨#[c]⟩ := by
              rw [ext_list, List.drop_eq_getElem_cons hnl, show n + 1 - n = 1 by omega, hc]; rfl
            have HSN := Lib.hid (show B0 ++ (x.take (n + 1)).flatMap encC = S ++ encC c by rw [flat_snoc x n hnl, HS.out, hc, List.append_assoc])
            have hc256 := c.toNat_lt
            clear hc
            by_cases hpl : plainB c = true
            · have HE := Lib.hid (show encC c = [c] from if_pos hpl)
              have hp := hpl
              unfold plainB at hp
              simp only [Bool.and_eq_true, decide_eq_true_eq, Bool.not_eq_true', beq_eq_false_iff_ne] at hp
              have g1 : (32 : Int) < (c.toNat : Int) := by omega
              have g2 : (c.toNat : Int) < 127 := by omega
              have g3 : (((c.toNat : Int)) != 37) = true := by
                rw [bne_iff_ne]; intro h; exact hp.2 (UInt8.toNat_inj.1 (by show c.toNat = 37; omega))
              have hc9 := cat_end S c
              clear hp hpl
              go_wp2
              go_roundw
              case rel => exact ⟨n + 1, by omega, by go_num, by rw [HSN.out, HE.out], HW⟩
              case measure => simp [intOf]; omega
            · obtain ⟨n1, hn1⟩ : ∃ n1, n1 = c.toNat / 16 := ⟨_, rfl⟩
              obtain ⟨n2, hn2⟩ : ∃ n2, n2 = c.toNat % 16 := ⟨_, rfl⟩
              have HE := Lib.hid (show encC c = [37, capD n1, capD n2] by rw [hn1, hn2]; exact if_neg hpl)
              have k1 := fun W => caps_slice n1 (by omega) W
              have k2 := fun W => caps_slice n2 (by omega) W
              have t1 : Int.tdiv (c.toNat : Int) 16 = (n1 : Int) := by rw [hn1]; rfl
              have t2 : Int.tmod (c.toNat : Int) 16 = (n2 : Int) := by rw [hn2]; rfl
              have t3 : (c.toNat : Int) / 16 = (n1 : Int) := by rw [hn1]; rfl
              have t4 : (c.toNat : Int) % 16 = (n2 : Int) := by rw [hn2]; rfl
              have t5 : IntKind.u8.wrap (n1 : Int) = (n1 : Int) := by rw [IntKind.wrap_u8]; omega
              have t6 : IntKind.u8.wrap ((n1 : Int) + 1) = (n1 : Int) + 1 := by rw [IntKind.wrap_u8]; omega
              have t7 : IntKind.u8.wrap ((n2 : Int) + 1) = (n2 : Int) + 1 := by rw [IntKind.wrap_u8]; omega
              have c1 : (⟨#[37]⟩ : ByteArray) ++ (⟨#[capD n1]⟩ : ByteArray) = ⟨#[37, capD n1]⟩ := rfl
              have c2 : (⟨#[37, capD n1]⟩ : ByteArray) ++ (⟨#[capD n2]⟩ : ByteArray) = ⟨#[37, capD n1, capD n2]⟩ := rfl
              have c3 : (⟨S.toArray⟩ : ByteArray) ++ (⟨#[37, capD n1, capD n2]⟩ : ByteArray) = ⟨(S ++ [37, capD n1, capD n2]).toArray⟩ := by
                apply ByteArray.ext; rw [ByteArray.data_append]; apply Array.ext'; simp
              clear hn1 hn2
              by_cases h1 : 32 < c.toNat
              · have g1 : (32 : Int) < (c.toNat : Int) := by omega
                by_cases h2 : c.toNat < 127
                · have g2 : (c.toNat : Int) < 127 := by omega
                  have h3 : c.toNat = 37 := by
                    rcases Nat.decEq c.toNat 37 with h | h
                    · exfalso; apply hpl; unfold plainB
                      rw [decide_eq_true (by omega : 33 ≤ c.toNat), decide_eq_true (by omega : c.toNat ≤ 126)]
                      have : (c == 37) = false := by
                        rw [beq_eq_false_iff_ne]; rintro rfl; exact h rfl
                      rw [this]; rfl
                    · exact h
                  have g3 : (((c.toNat : Int)) != 37) = false := by rw [h3]; rfl
                  clear hpl h3
                  go_wp2
                  go_quiet (fail)
                  clear k1 k2 t1 t2 t3 t4 t5 t6 t7 c1 c2 c3
                  go_wp2
                  go_roundw
                  case rel => exact ⟨n + 1, by omega, by go_num, by rw [HSN.out, HE.out], Lib.hid (Go.below_drewN HW.out _)⟩
                  case measure => simp [intOf]; omega
                · have g2 : ¬ (c.toNat : Int) < 127 := by omega
                  clear hpl
                  go_wp2
                  go_quiet (fail)
                  clear k1 k2 t1 t2 t3 t4 t5 t6 t7 c1 c2 c3
                  go_wp2
                  go_roundw
                  case rel => exact ⟨n + 1, by omega, by go_num, by rw [HSN.out, HE.out], Lib.hid (Go.below_drewN HW.out _)⟩
                  case measure => simp [intOf]; omega
              · have g1 : ¬ (32 : Int) < (c.toNat : Int) := by omega
                clear hpl
                go_wp2
                go_quiet (fail)
                clear k1 k2 t1 t2 t3 t4 t5 t6 t7 c1 c2 c3
                go_wp2
                go_roundw
                case rel => exact ⟨n + 1, by omega, by go_num, by rw [HSN.out, HE.out], Lib.hid (Go.below_drewN HW.out _)⟩
                case measure => simp [intOf]; omega
          · obtain rfl : n = x.length := by omega
            have HE := Lib.hid (show S = lineC (L.take (k + 1)) by rw [HS.out, List.take_length]; exact HSC.out)
            go_wp2
            go_roundw
            case rel => exact ⟨k + 1, by omega, by go_num, by rw [HE.out], Lib.hid (HB.out.trans (HW.out.mono HB.out.size))⟩
            case measure => simp [intOf]; omega
    · obtain rfl : k = L.length := by omega
      rw [List.take_length]
      have hll := line_len L 1000 HM.out
      have hmul : L.length * (3 * 1000 + 2) ≤ 1000 * (3 * 1000 + 2) := Nat.mul_le_mul_right _ hL
      obtain ⟨T, hT⟩ : ∃ T, T = lineC L := ⟨_, rfl⟩
      rw [← hT] at hll
      have HT := Lib.hid hT
      rw [← hT]
      have hlc : ¬ (9223372036854775807 < T.length + 1) := by omega
      have hc1 := cat_end T 10
      clear hT hll hmul
      go_wp2
      go_ret
      refine ⟨?_, HB.out⟩
      rw [← HT.out]
      rfl
theorem refRow_g (l : List ByteArray) (hl : l.length ≤ 1000) (hM : (l.all fun e => decide (e.size ≤ 1000)) = true) (a : Option Addr) (c : Nat) (w : World) (hr : Kd.C Kd.string w a l.length l) :
    Calls Tryd.prog 12 #[.slice a l.length c] w fun e w' => e = .returned (.string ⟨(lineC (l.map fun s : ByteArray => s.data.toList) ++ [10]).toArray⟩) ∧ Below w.heap.size w w' := by
  have h1 := rd_of_C (d := Kd.string) (fun z => [Value.string z]) (by decide) (fun _ => rfl) (fun _ _ _ h => h) hr
  rw [flat_str] at h1
  have h := refRow_any (l.map fun s : ByteArray => s.data.toList) (by rw [List.length_map]; exact hl) (fun x hx => by
    obtain ⟨s, hs, rfl⟩ := List.mem_map.1 hx
    rw [Array.length_toList]
    exact of_decide_eq_true (List.all_eq_true.1 hM s hs)) a c w h1
  rw [List.length_map] at h
  exact h
end Go.Proofs.YtipnoeffahnfaaaDoor

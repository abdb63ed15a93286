/- Plain laws: StrtabAdds comes to true; its walk. -/
import Derived.Test.YtolgilamchadfaaXAdP03D
namespace Go.Proofs.YtolgilamchadfaaX.Ad
set_option linter.unusedVariables false
set_option linter.unusedSimpArgs false
open Go.RowKit Go.Proofs.Ytolgilamchadfaa Go.Proofs.YtolgilamchadfaaW.PrintWords Go.Proofs.YtolgilamchadfaaW.PrintLast Go.Proofs.YtolgilamchadfaaW.PrintMore

theorem contains_f (N : ByteArray) : strings_Contains.f N (⟨#[0]⟩ : ByteArray) = some (darkB N) := by unfold strings_Contains.f; rw [if_pos rfl]
theorem j0_ev (X N : ByteArray) (hX : X.size ≤ 300) (hN : N.size ≤ 30) : Ev (fun k => strtab_Add.j0 k X N) (if N.data.toList = [] then (X, 0, 0) else (X ++ (N ++ (⟨#[0]⟩ : ByteArray)), ((X.size : Nat) : Int), 0)) := by
  refine Ev.step (f := fun _ => some (if N.data.toList = [] then (X, (0 : Int), (0 : Int)) else (X ++ (N ++ (⟨#[0]⟩ : ByteArray)), ((X.size : Nat) : Int), 0))) (fun k => ?_) (Ev.now _)
  simp only [strtab_Add.j0]
  rw [Lib.toList_data]
  by_cases h : N.data.toList = []
  · rw [if_pos h, if_pos h, if_neg (by omega)]
  · have hs : (X ++ (N ++ (⟨#[0]⟩ : ByteArray))).size = X.size + (N.size + 1) := by rw [ByteArray.size_append, ByteArray.size_append]; rfl
    have hs2 : (N ++ (⟨#[0]⟩ : ByteArray)).size = N.size + 1 := by rw [ByteArray.size_append]; rfl
    rw [if_neg h, if_neg h, if_pos (by omega), if_pos (by omega), if_neg (by omega), u64w (by omega) (by omega)]
theorem not_dark {N : ByteArray} (hd : (0 : UInt8) ∉ N.data.toList) : darkB N = false := Bool.eq_false_iff.2 (fun h => hd ((dark_iff N).1 h))
theorem suffix_zero (l : List UInt8) : Lib.hasSuffix (l ++ [0]) [0] = true := by
  unfold Lib.hasSuffix
  rw [List.isSuffixOf_iff_suffix]
  exact List.suffix_append _ _
theorem add_ev (X N : ByteArray) (hX : X.size ≤ 200) (hN : N.size ≤ 30) (x9 : Int) (x10 : Bool) (hI : Inv X.data.toList N.data.toList 0 x9 x10) (hr : rightB X.data.toList = true) (hd : (0 : UInt8) ∉ N.data.toList) :
    ∃ (T : ByteArray) (kk : Nat), Ev (fun k => strtab_Add.f k X N) (T, ((kk : Nat) : Int), (0 : Int)) ∧ T.size ≤ 4000 ∧ textR (T.data.toList.drop kk) = some N.data.toList ∧ rightB T.data.toList = true ∧ (∃ e, T.data.toList = X.data.toList ++ e) ∧ (x10 = true → T = X ∧ ((kk : Nat) : Int) = x9) := by
  have hf := find_f X N (by omega) (by omega) x9 x10 hI
  have hR := right_f X (by omega)
  rw [hr] at hR
  have hnd := not_dark hd
  have hnl := ba_len N
  rcases hI with ⟨rfl, rfl, hno⟩ | ⟨rfl, m, _, rfl, hq, _⟩
  · have hstep : ∀ k, strtab_Add.f k X N = if X.data.toList = [] then strtab_Add.j0 k ⟨#[0]⟩ N else strtab_Add.j0 k X N := by
      intro k
      unfold strtab_Add.f
      rw [hR, Option.bind_some, if_pos rfl, contains_f, Option.bind_some, hnd, if_neg (by decide), hf, Option.bind_some, if_neg (by decide), Lib.toList_data]
    by_cases hX0 : X.data.toList = []
    · by_cases hN0 : N.data.toList = []
      · refine ⟨⟨#[0]⟩, 0, ?_, by decide, by rw [hN0]; rfl, by decide, ⟨[0], by rw [hX0]; rfl⟩, fun h => by cases h⟩
        have := j0_ev ⟨#[0]⟩ N (by decide) hN
        rw [if_pos hN0] at this
        exact Ev.congr (fun k => by rw [hstep, if_pos hX0]) this
      · refine ⟨⟨#[0]⟩ ++ (N ++ ⟨#[0]⟩), 1, ?_, ?_, ?_, ?_, ⟨0 :: (N.data.toList ++ [0]), ?_⟩, fun h => by cases h⟩
        · have := j0_ev ⟨#[0]⟩ N (by decide) hN
          rw [if_neg hN0] at this
          exact Ev.congr (fun k => by rw [hstep, if_pos hX0]) this
        · rw [ByteArray.size_append, ByteArray.size_append]; show 1 + (N.size + 1) ≤ _; omega
        · have : ((⟨#[0]⟩ : ByteArray) ++ (N ++ ⟨#[0]⟩)).data.toList = 0 :: (N.data.toList ++ [0]) := by simp
          rw [this]
          exact textR_self _ hd
        · have : ((⟨#[0]⟩ : ByteArray) ++ (N ++ ⟨#[0]⟩)).data.toList = (0 :: N.data.toList) ++ [0] := by simp
          rw [this]
          unfold rightB
          rw [suffix_zero]
          simp [Lib.hasPrefix]
        · rw [hX0]; simp
    · by_cases hN0 : N.data.toList = []
      · exfalso
        refine hno 0 (Nat.le_refl _) ?_
        unfold Q
        rw [hN0, List.drop_zero]
        unfold rightB at hr
        rw [Bool.or_eq_true, Bool.and_eq_true] at hr
        rcases hr with hr | ⟨hr, _⟩
        · exact absurd (List.isEmpty_iff.1 hr) hX0
        · unfold Lib.hasPrefix at hr
          exact (textR_iff _ _).2 ⟨by simp, by simpa using hr⟩
      · have hdat : (X ++ (N ++ (⟨#[0]⟩ : ByteArray))).data.toList = (X.data.toList ++ N.data.toList) ++ [0] := by simp
        refine ⟨X ++ (N ++ ⟨#[0]⟩), X.size, ?_, ?_, ?_, ?_, ⟨N.data.toList ++ [0], by rw [hdat, List.append_assoc]⟩, fun h => by cases h⟩
        · have := j0_ev X N (by omega) hN
          rw [if_neg hN0] at this
          exact Ev.congr (fun k => by rw [hstep, if_neg hX0]) this
        · rw [ByteArray.size_append, ByteArray.size_append]; show X.size + (N.size + 1) ≤ _; omega
        · rw [hdat, List.append_assoc, ← ba_len X, List.drop_left]
          exact textR_self _ hd
        · rw [hdat]
          unfold rightB at hr ⊢
          rw [suffix_zero]
          rw [Bool.or_eq_true, Bool.and_eq_true] at hr
          rcases hr with hr | ⟨hr, _⟩
          · exact absurd (List.isEmpty_iff.1 hr) hX0
          · unfold Lib.hasPrefix at hr ⊢
            rw [List.isPrefixOf_iff_prefix] at hr
            rw [Bool.or_eq_true, Bool.and_eq_true]
            refine .inr ⟨?_, rfl⟩
            rw [List.isPrefixOf_iff_prefix, List.append_assoc]
            exact hr.trans (List.prefix_append _ _)
  · refine ⟨X, m, ?_, by omega, hq, hr, ⟨[], by simp⟩, fun _ => ⟨rfl, rfl⟩⟩
    refine Ev.congr (f := fun _ => some (X, ((m : Nat) : Int), (0 : Int))) (fun k => ?_) (Ev.now _)
    unfold strtab_Add.f
    rw [hR, Option.bind_some, if_pos rfl, contains_f, Option.bind_some, hnd, if_neg (by decide), hf, Option.bind_some, if_pos rfl]
theorem tx_some {l : List UInt8} {n : Nat} {s : List UInt8} (h : textR (l.drop n) = some s) : tx l n = (⟨s.toArray⟩, true) := by unfold tx; rw [h]
theorem j2_ev (X N : ByteArray) (hX : X.size ≤ 200) (hN : N.size ≤ 30) (a2 : Nat) (x9 : Int) (x10 : Bool) (hI : Inv X.data.toList N.data.toList 0 x9 x10) : Ev (fun k => graverlaw03_StrtabAdds.j2 k X N (a2 : Int) (darkB N) x9 x10 false) true := by
  have hR := right_f X (by omega)
  by_cases hr : rightB X.data.toList = true
  · rw [hr] at hR
    by_cases hd : (0 : UInt8) ∈ N.data.toList
    · have hnd : darkB N = true := (dark_iff N).2 hd
      refine Ev.step (f := fun _ => some true) (fun k => ?_) (Ev.now _)
      have ha : strtab_Add.f k X N = some (⟨#[]⟩, 0, 12) := by
        unfold strtab_Add.f
        rw [hR, Option.bind_some, if_pos rfl, contains_f, Option.bind_some, hnd, if_pos rfl]
      simp only [graverlaw03_StrtabAdds.j2]
      rw [if_neg (by decide), ha, Option.bind_some, hR, Option.bind_some, if_pos rfl, hnd, if_pos rfl, if_pos rfl, Lib.toList_data]
      rfl
    · obtain ⟨T, kk, hA, hTs, hTk, hTr, ⟨e, hTe⟩, hT1⟩ := add_ev X N hX hN x9 x10 hI hr hd
      have hnd := not_dark hd
      have hRT := right_f T (by omega)
      rw [hTr] at hRT
      have e1 := text_f T (by omega) kk
      have e2 := text_f X (by omega) a2
      have e3 := text_f T (by omega) a2
      rw [tx_some hTk] at e1
      have hlen : X.size ≤ T.size := by
        have := congrArg List.length hTe
        rw [List.length_append, ba_len, ba_len] at this; omega
      have hcut : (T.extract 0 X.size).toList = X.toList := by
        rw [Lib.toList_data, Lib.toList_data, ByteArray.data_extract]
        simp only [Array.toList_extract]
        rw [List.extract_eq_take_drop, List.drop_zero, Nat.sub_zero, hTe, ← ba_len X, List.take_left]
      have hend : (if x10 = true then (if T.toList = X.toList then some (((kk : Nat) : Int) == x9) else some false) else some true) = some true := by
        cases x10
        · rfl
        · obtain ⟨h1, h2⟩ := hT1 rfl
          rw [if_pos rfl, h1, if_pos rfl, h2]; simp
      obtain ⟨K0, h0⟩ := hA
      obtain ⟨K1, h1⟩ := e1
      obtain ⟨K2, h2⟩ := e2
      obtain ⟨K3, h3⟩ := e3
      refine ⟨K0 + K1 + K2 + K3 + 1, fun k hk => ?_⟩
      obtain ⟨k', rfl⟩ : ∃ k', k = k' + 1 := ⟨k - 1, by omega⟩
      have g0 := h0 k' (by omega)
      have g1 := h1 k' (by omega)
      have g2 := h2 k' (by omega)
      have g3 := h3 k' (by omega)
      simp only [] at g0 g1 g2 g3
      simp only [graverlaw03_StrtabAdds.j2]
      rw [if_neg (by decide), g0, Option.bind_some, hR, Option.bind_some, if_pos rfl, hnd, if_neg (by decide), g1, Option.bind_some, g2, Option.bind_some, g3, Option.bind_some, if_pos rfl, if_pos rfl, if_pos (by rw [Lib.toList_data]), hRT, Option.bind_some, if_pos rfl, if_pos (by show (T.size : Int) ≥ (X.size : Int); omega), if_pos (by omega), if_pos (by show (X.size : Int) ≤ (T.size : Int); omega), if_pos (by rw [Int.toNat_natCast]; exact hcut)]
      rw [hend]
      cases hx : textR (X.data.toList.drop a2) with
      | none =>
        have : tx X.data.toList a2 = (⟨#[]⟩, false) := by unfold tx; rw [hx]
        rw [this, if_neg (by decide)]
      | some s =>
        have h5 := tx_drop_append _ e _ _ hx
        rw [← hTe] at h5
        rw [tx_some hx, tx_some h5, if_pos rfl, if_pos rfl, if_pos rfl]
  · have hr' : rightB X.data.toList = false := Bool.eq_false_iff.2 hr
    rw [hr'] at hR
    refine Ev.step (f := fun _ => some true) (fun k => ?_) (Ev.now _)
    have ha : strtab_Add.f k X N = some (⟨#[]⟩, 0, 6) := by
      unfold strtab_Add.f
      rw [hR, Option.bind_some, if_neg (by decide)]
    simp only [graverlaw03_StrtabAdds.j2]
    rw [if_neg (by decide), ha, Option.bind_some, hR, Option.bind_some, if_neg (by decide), if_pos rfl, Lib.toList_data]
    rfl
theorem l1_ev (X N : ByteArray) (hX : X.size ≤ 200) (hN : N.size ≤ 30) (a2 : Nat) : ∀ (i : Nat), i ≤ X.size → ∀ x9 x10, Inv X.data.toList N.data.toList i x9 x10 → Ev (fun k => graverlaw03_StrtabAdds.l1 k X N (a2 : Int) (darkB N) x9 x10 ((i : Int) - 1)) true := by
  intro i
  induction i with
  | zero =>
    intro hi x9 x10 hI
    refine Ev.step (f := fun k => graverlaw03_StrtabAdds.j2 k X N (a2 : Int) (darkB N) x9 x10 false) (fun k => ?_) (j2_ev X N hX hN a2 x9 x10 hI)
    simp only [graverlaw03_StrtabAdds.l1]
    rw [if_neg (by omega), find_f X N (by omega) (by omega) x9 x10 hI, Option.bind_some, if_neg (by simp)]
    simp
  | succ i ih =>
    intro hi x9 x10 hI
    have et := text_f X (by omega) i
    have hw : wrap64 (((i + 1 : Nat) : Int) - 1 - 1) = (i : Int) - 1 := by rw [wrap_s (by omega) (by omega)]; omega
    refine Ev.step (f := fun k => (graverref03_Text.f k X (i : Int)).bind fun bt121 => (if bt121.2 = true then (if bt121.1.toList = N.toList then (graverlaw03_StrtabAdds.l1 k X N (a2 : Int) (darkB N) (i : Int) true ((i : Int) - 1)) else (graverlaw03_StrtabAdds.l1 k X N (a2 : Int) (darkB N) x9 x10 ((i : Int) - 1))) else (graverlaw03_StrtabAdds.l1 k X N (a2 : Int) (darkB N) x9 x10 ((i : Int) - 1)))) (fun k => ?_) (Ev.bind et ?_)
    · simp only [graverlaw03_StrtabAdds.l1]
      rw [if_pos (by omega), hw, show ((i + 1 : Nat) : Int) - 1 = (i : Int) by omega, u64w (by omega) (by omega)]
    · have hold : ¬ Q X.data.toList N.data.toList i → Inv X.data.toList N.data.toList i x9 x10 := by
        intro hq
        rcases hI with ⟨h1, h2, h3⟩ | ⟨h1, m, h2, h3, h4, h5⟩
        · exact .inl ⟨h1, h2, fun j hj => by
            rcases Nat.lt_or_ge i j with h | h
            · exact h3 j h
            · obtain rfl : j = i := by omega
              exact hq⟩
        · exact .inr ⟨h1, m, by omega, h3, h4, fun j hj hjm => by
            rcases Nat.lt_or_ge i j with h | h
            · exact h5 j h hjm
            · obtain rfl : j = i := by omega
              exact hq⟩
      cases hx : textR (X.data.toList.drop i) with
      | none =>
        have h1 : tx X.data.toList i = (⟨#[]⟩, false) := by unfold tx; rw [hx]
        rw [h1]
        exact Ev.congr (fun k => if_neg (by decide)) (ih (by omega) x9 x10 (hold (fun h => by unfold Q at h; rw [hx] at h; cases h)))
      | some s =>
        rw [tx_some hx]
        by_cases hs : s = N.data.toList
        · refine Ev.congr (fun k => by rw [if_pos rfl, if_pos (by rw [ba_list, Lib.toList_data]; exact hs)]) (ih (by omega) (i : Int) true (.inr ⟨rfl, i, Nat.le_refl _, rfl, by unfold Q; rw [hx, hs], fun j h1 h2 => by omega⟩))
        · refine Ev.congr (fun k => by rw [if_pos rfl, if_neg (by rw [ba_list, Lib.toList_data]; exact hs)]) (ih (by omega) x9 x10 (hold (fun h => by unfold Q at h; rw [hx] at h; exact hs (Option.some.inj h))))
theorem l0_ev (X N : ByteArray) (hX : X.size ≤ 200) (hN : N.size ≤ 30) (a2 : Nat) : ∀ d j (b : Bool), j + d = N.size → b = decide ((0 : UInt8) ∈ N.data.toList.take j) → Ev (fun k => graverlaw03_StrtabAdds.l0 k X N (a2 : Int) b (j : Int)) true := by
  intro d
  induction d with
  | zero =>
    intro j b hj hb
    have hbd : b = darkB N := by
      rw [hb, List.take_of_length_le (by rw [ba_len]; omega)]
      cases hd : darkB N with
      | false => rw [decide_eq_false]; intro h; rw [(dark_iff N).2 h] at hd; cases hd
      | true => exact decide_eq_true ((dark_iff N).1 hd)
    rw [hbd]
    refine Ev.step (fun k => ?_) (l1_ev X N hX hN a2 X.size (Nat.le_refl _) 0 false (.inl ⟨rfl, rfl, fun i hi => q_far _ _ i (by rw [ba_len]; exact hi)⟩))
    simp only [graverlaw03_StrtabAdds.l0]
    rw [if_neg (by omega), wrap_s (by omega) (by omega)]
  | succ d ih =>
    intro j b hj hb
    have hl : j < N.data.toList.length := by rw [ba_len]; omega
    have hbt := bt_list N j hl
    have htake := List.take_succ_eq_append_getElem hl
    cases b
    · refine Ev.step (f := fun k => graverlaw03_StrtabAdds.l0 k X N (a2 : Int) (bt N (j : Int) == 0) ((j + 1 : Nat) : Int)) (fun k => ?_) (ih (j + 1) _ (by omega) ?_)
      · simp only [graverlaw03_StrtabAdds.l0]
        rw [if_pos (by omega), if_neg (by decide), if_pos (by omega), wrap_up j (by omega)]
      · have h0 : (0 : UInt8) ∉ N.data.toList.take j := of_decide_eq_false hb.symm
        rw [htake, hbt]
        generalize N.data.toList[j] = c
        by_cases hc : c = 0
        · subst hc; simp
        · have : ¬ ((c.toNat : Int) = 0) := fun h => hc (UInt8.toNat_inj.1 (by simpa using h))
          rw [decide_eq_false (by simp [h0, Ne.symm hc])]
          simpa using this
    · refine Ev.step (f := fun k => graverlaw03_StrtabAdds.l0 k X N (a2 : Int) true ((j + 1 : Nat) : Int)) (fun k => ?_) (ih (j + 1) _ (by omega) ?_)
      · simp only [graverlaw03_StrtabAdds.l0]
        rw [if_pos (by omega), if_pos trivial, wrap_up j (by omega)]
      · have h0 : (0 : UInt8) ∈ N.data.toList.take j := of_decide_eq_true hb.symm
        rw [htake]
        exact (decide_eq_true (by simp [h0])).symm
theorem adds_ev (t nm : ByteArray) (a2 : Nat) : Ev (fun k => graverlaw03_StrtabAdds.f k t nm (a2 : Int)) true := by
  obtain ⟨i, hi, hi2, hi3⟩ : ∃ i : Nat, mn (t.size : Int) 200 = (i : Int) ∧ i ≤ 200 ∧ i ≤ t.size := ⟨min t.size 200, by unfold mn; split <;> omega, by omega, by omega⟩
  obtain ⟨j, hj, hj2, hj3⟩ : ∃ j : Nat, mn (nm.size : Int) 30 = (j : Int) ∧ j ≤ 30 ∧ j ≤ nm.size := ⟨min nm.size 30, by unfold mn; split <;> omega, by omega, by omega⟩
  have h1 : (t.extract 0 i).size ≤ 200 := by rw [ByteArray.size_extract]; omega
  have h2 : (nm.extract 0 j).size ≤ 30 := by rw [ByteArray.size_extract]; omega
  refine Ev.congr (fun k => ?_) (l0_ev (t.extract 0 i) (nm.extract 0 j) h1 h2 a2 (nm.extract 0 j).size 0 false (by omega) (by simp))
  unfold graverlaw03_StrtabAdds.f
  rw [speaks_ev, Option.bind_some, if_pos rfl, hi, hj, if_pos (by omega), if_pos (by omega), if_pos (by omega), if_pos (by omega), Int.toNat_natCast, Int.toNat_natCast]
  rfl
end Go.Proofs.YtolgilamchadfaaX.Ad
namespace Go.Proofs.Ytolgilamchadfaa
open Go.RowKit Go.Proofs.YtolgilamchadfaaX.Ad Go.Proofs.YtolgilamchadfaaW.PrintWords
theorem adds_walk (x0 x1 : ByteArray) (x2 : Int) (h2 : 0 ≤ x2) (W : World) (hsh : W.ShapedOpen Try.prog) :
    Calls Try.prog 4 #[.string x0, .string x1, .int .u64 x2] W fun e w' => e = .returned (.bool true) ∧ Below W.heap.size W w' := by
  obtain ⟨k, hk⟩ := (adds_ev x0 x1 x2.toNat).rounds
  rw [Int.toNat_of_nonneg h2] at hk
  exact graverlaw03_StrtabAdds.calls k x0 x1 x2 true W (maxAt_of hsh) hk
end Go.Proofs.Ytolgilamchadfaa

/- Contracts over this translation, plans' models: what told makes of a plan; speaks. -/
import Derived.Test.YthphhogljniofaaDoorXKdM17P
namespace Go.Proofs.YthphhogljniofaaDoor
set_option linter.unusedVariables false
set_option linter.unusedSimpArgs false
open Go.RowKit Go.Proofs.YthphhogljniofaaDoorX.Kd Go.Proofs.YthphhogljniofaaDoorW.PrintWords Go.Proofs.YthphhogljniofaaDoorW.PrintLast Go.Proofs.YthphhogljniofaaDoorW.PrintMore

/-- A plan's model. -/
def planM (fl : Int) (ps : List S74) (ys : List S52) (rs : List S87) (ds : List ByteArray) : MdD := ⟨flagB fl 1, flagB fl 2, 3, 0, ⟨#[]⟩, 1, 243, 16, 5, 1, (madeSecs fl ps ys rs).map secT, (segsR ds).map segT⟩
theorem symsK_len (ys : List S52) (n : Int) (b : Nat) : (symsK ys n b 8).length ≤ 8 := by
  unfold symsK
  rw [List.length_map]
  exact Nat.le_trans (List.length_filter_le _ _) (by rw [List.length_take]; omega)
theorem symbolsR_len (ys : List S52) (n : Int) : (symbolsR ys n).length ≤ 17 := by
  unfold symbolsR
  have h1 := symsK_len ys n 0
  have h2 := symsK_len ys n 1
  simp only [List.length_append, List.length_singleton]
  omega
theorem secR_in (x : S74) : (secR x).f10.length ≤ 17 ∧ (secR x).f11.length ≤ 6 ∧ (secR x).f12.length ≤ 2 := ⟨by simp [secR], by simp [secR], by simp [secR]⟩
theorem madeSecs_len (fl : Int) (ps : List S74) (ys : List S52) (rs : List S87) : (madeSecs fl ps ys rs).length ≤ 13 := by
  have h := (sectionsR_len ps).2
  unfold madeSecs moreSecs
  split
  · simp only [List.length_append]
    split <;> split <;> split <;> split <;> simp <;> omega
  · simp only [List.length_append, List.length_nil]; omega
theorem madeSecs_in (fl : Int) (ps : List S74) (ys : List S52) (rs : List S87) : ∀ x ∈ madeSecs fl ps ys rs, x.f10.length ≤ 17 ∧ x.f11.length ≤ 6 ∧ x.f12.length ≤ 2 := by
  have hz : ∀ x : S78, x.f10 = [] → x.f11 = [] → x.f12 = [] → x.f10.length ≤ 17 ∧ x.f11.length ≤ 6 ∧ x.f12.length ≤ 2 := fun x h1 h2 h3 => by rw [h1, h2, h3]; simp
  intro x hx
  unfold madeSecs at hx
  rcases List.mem_append.1 hx with hx | hx
  · unfold sectionsR at hx
    rcases List.mem_append.1 hx with hx | hx
    · simp only [List.mem_cons, List.not_mem_nil, or_false] at hx
      rcases hx with rfl | rfl <;> exact hz _ rfl rfl rfl
    · obtain ⟨y, _, rfl⟩ := List.mem_map.1 hx
      exact secR_in y
  · split at hx
    · unfold moreSecs at hx
      dsimp only at hx
      rcases List.mem_append.1 hx with hx | hx
      · rcases List.mem_append.1 hx with hx | hx
        · rcases List.mem_append.1 hx with hx | hx
          · rcases List.mem_append.1 hx with hx | hx
            · split at hx
              · simp only [List.mem_cons, List.not_mem_nil, or_false] at hx; subst hx; exact hz _ rfl rfl rfl
              · cases hx
            · simp only [List.mem_cons, List.not_mem_nil, or_false] at hx; subst hx
              exact ⟨symbolsR_len _ _, by simp [symtabS, z78], by simp [symtabS, z78]⟩
          · split at hx
            · simp only [List.mem_cons, List.not_mem_nil, or_false] at hx; subst hx
              exact ⟨by simp [relS, z78], by simp only [relS, List.length_map, List.length_take]; omega, by simp [relS, z78]⟩
            · cases hx
        · split at hx
          · simp only [List.mem_cons, List.not_mem_nil, or_false] at hx; subst hx
            exact ⟨by simp [groupS, z78], by simp [groupS, z78], by simp [groupS]⟩
          · cases hx
      · split at hx
        · simp only [List.mem_cons, List.not_mem_nil, or_false] at hx; subst hx; exact hz _ rfl rfl rfl
        · cases hx
    · cases hx
theorem segsR_le (ds : List ByteArray) : (segsR ds).length ≤ 3 := by
  unfold segsR
  rw [List.length_map, List.length_zipIdx, List.length_take]; omega
theorem planM_L (fl : Int) (ps : List S74) (ys : List S52) (rs : List S87) (ds : List ByteArray) : (planM fl ps ys rs ds).L.length ≤ 13 := by
  show ((madeSecs fl ps ys rs).map secT).length ≤ 13
  rw [List.length_map]; exact madeSecs_len _ _ _ _
theorem planM_D (fl : Int) (ps : List S74) (ys : List S52) (rs : List S87) (ds : List ByteArray) : (planM fl ps ys rs ds).D.length ≤ 3 := by
  show ((segsR ds).map segT).length ≤ 3
  rw [List.length_map]; exact segsR_le _
theorem planM_in (fl : Int) (ps : List S74) (ys : List S52) (rs : List S87) (ds : List ByteArray) : ∀ x ∈ (planM fl ps ys rs ds).L, x.f10.length ≤ 17 ∧ x.f11.length ≤ 6 ∧ x.f12.length ≤ 2 := by
  intro x hx
  obtain ⟨y, hy, rfl⟩ := List.mem_map.1 hx
  have h := madeSecs_in fl ps ys rs y hy
  exact ⟨by simpa [secT] using h.1, by simpa [secT] using h.2.1, h.2.2⟩
theorem told_plan (fl : Int) (ps : List S74) (ys : List S52) (rs : List S87) (ds : List ByteArray) (A9 A10 : Option Addr) (c9 c10 : Nat) (w : World) (h9 : Kd.C k78 w A9 (madeSecs fl ps ys rs).length (madeSecs fl ps ys rs)) (h10 : Kd.C k81 w A10 (segsR ds).length (segsR ds)) :
    Calls Tryd.prog 8 #[.agg #[.bool (flagB fl 2), .bool (flagB fl 1), .int .u8 3, .int .u8 0, .int .u64 1, .int .u64 243, .int .u64 16, .int .u64 5, .int .u64 1, .slice A9 (madeSecs fl ps ys rs).length c9, .slice A10 (segsR ds).length c10]] w fun e w' => ∃ B9 B10 d9 d10, e = .returned (.agg #[.bool (flagB fl 1), .bool (flagB fl 2), .int .u8 3, .int .u8 0, .string ⟨#[]⟩, .int .u64 1, .int .u64 243, .int .u64 16, .int .u64 5, .int .u64 1, .slice B9 (planM fl ps ys rs ds).L.length d9, .slice B10 (planM fl ps ys rs ds).D.length d10]) ∧ Kd.C k58 w' B9 (planM fl ps ys rs ds).L.length (planM fl ps ys rs ds).L ∧ Kd.C k65 w' B10 (planM fl ps ys rs ds).D.length (planM fl ps ys rs ds).D ∧ Below w.heap.size w w' := by
  have hl := madeSecs_len fl ps ys rs
  have hs := segsR_le ds
  refine (told_any (flagB fl 2) (flagB fl 1) 3 0 1 243 16 5 1 (madeSecs fl ps ys rs) (segsR ds) (by omega) (by omega) (fun x hx => by have := madeSecs_in fl ps ys rs x hx; omega) A9 A10 c9 c10 w h9 h10).mono ?_
  rintro e w' ⟨v9, v10, rfl, hR, hD, hB⟩
  obtain ⟨B9, d9, rfl, _, hC9⟩ := Kd.R_reads hR
  obtain ⟨B10, d10, rfl, _, hC10⟩ := Kd.R_reads hD
  exact ⟨B9, B10, d9, d10, rfl, hC9, hC10, hB⟩
def pS : S74 := ⟨⟨#[97]⟩, 0, 0, 0, ⟨#[97, 98, 99]⟩⟩
def A0 : MdD := planM 0 [pS] [] [] []
theorem A0_L : A0.L.length = 3 := rfl
/-- The third section has another name. -/
noncomputable def B0 : MdD := { A0 with L := A0.L.set 2 { A0.L[2] with f0 := ⟨#[98]⟩ } }
theorem ab_diff : diffR A0 B0 = ⟨#[115, 101, 99, 116, 105, 111, 110, 32, 50, 32, 110, 97, 109, 101]⟩ := by
  have hh : headR A0 B0 = ⟨#[]⟩ := headR_of ⟨rfl, rfl, rfl, rfl⟩ ⟨rfl, rfl, rfl, rfl, rfl⟩ (by show A0.L.length = (A0.L.set 2 _).length; rw [List.length_set])
  obtain ⟨x0, x1, x2, hx⟩ : ∃ x0 x1 x2, A0.L = [x0, x1, x2] := ⟨_, _, _, rfl⟩
  have hx2 : A0.L[2] = x2 := by simp [hx]
  have hne : x2.f0 ≠ ⟨#[98]⟩ := by
    rw [← hx2]
    decide
  have hB : B0.L = [x0, x1, { x2 with f0 := ⟨#[98]⟩ }] := by
    show A0.L.set 2 _ = _
    rw [hx2, hx]; rfl
  have hw : whereR x2 { x2 with f0 := ⟨#[98]⟩ } = ⟨#[110, 97, 109, 101]⟩ := by
    unfold whereR
    unfold firstR
    rw [eqC_false hne]
    rfl
  have hs : secsR 0 A0.L B0.L = ⟨#[115, 101, 99, 116, 105, 111, 110, 32, 50, 32, 110, 97, 109, 101]⟩ := by
    rw [hx, hB]
    unfold secsR
    rw [if_pos (whereR_nil.2 rfl)]
    unfold secsR
    rw [if_pos (whereR_nil.2 rfl)]
    unfold secsR
    rw [if_neg (by rw [hw]; decide), hw]
    decide
  unfold diffR
  rw [if_neg (fun h => h hh), if_pos (by rw [hs]; decide), hs]
theorem told_A0 (A9 A10 : Option Addr) (c9 c10 : Nat) (w : World) (h9 : Kd.C k78 w A9 (madeSecs 0 [pS] [] []).length (madeSecs 0 [pS] [] [])) (h10 : Kd.C k81 w A10 (segsR []).length (segsR [])) :
    Calls Tryd.prog 8 #[.agg #[.bool (flagB 0 2), .bool (flagB 0 1), .int .u8 3, .int .u8 0, .int .u64 1, .int .u64 243, .int .u64 16, .int .u64 5, .int .u64 1, .slice A9 (madeSecs 0 [pS] [] []).length c9, .slice A10 (segsR []).length c10]] w fun e w' => ∃ B9 B10 d9 d10, e = .returned (.agg #[.bool (flagB 0 1), .bool (flagB 0 2), .int .u8 3, .int .u8 0, .string ⟨#[]⟩, .int .u64 1, .int .u64 243, .int .u64 16, .int .u64 5, .int .u64 1, .slice B9 A0.L.length d9, .slice B10 A0.D.length d10]) ∧ Kd.C k58 w' B9 A0.L.length A0.L ∧ Kd.C k65 w' B10 A0.D.length A0.D ∧ Below w.heap.size w w' := told_plan 0 [pS] [] [] [] A9 A10 c9 c10 w h9 h10
theorem copy_A0 (B9 B10 : Option Addr) (d9 d10 : Nat) (w : World) (h9 : Kd.C k58 w B9 A0.L.length A0.L) (h10 : Kd.C k65 w B10 A0.D.length A0.D) :
    Calls Tryd.prog 13 #[.agg #[.bool (flagB 0 1), .bool (flagB 0 2), .int .u8 3, .int .u8 0, .string ⟨#[]⟩, .int .u64 1, .int .u64 243, .int .u64 16, .int .u64 5, .int .u64 1, .slice B9 A0.L.length d9, .slice B10 A0.D.length d10]] w fun e w' => ∃ g cap E10 e10, e = .returned (.agg #[.bool (flagB 0 1), .bool (flagB 0 2), .int .u8 3, .int .u8 0, .string ⟨#[]⟩, .int .u64 1, .int .u64 243, .int .u64 16, .int .u64 5, .int .u64 1, .slice (some ⟨g, 0, none⟩) A0.L.length cap, .slice E10 A0.D.length e10]) ∧ Kd.S k58 58 w' w.heap.size (fun _ => True) (.slice (some ⟨g, 0, none⟩) A0.L.length cap) A0.L ∧ Kd.R k65 65 w' w.heap.size (fun _ => True) (.slice E10 A0.D.length e10) A0.D ∧ Below w.heap.size w w' := by
  refine (copy_any (flagB 0 1) (flagB 0 2) 3 0 ⟨#[]⟩ 1 243 16 5 1 A0.L A0.D (by rw [A0_L]; decide) (by have := planM_D 0 [pS] [] [] []; show (planM 0 [pS] [] [] []).D.length * 64 ≤ _; omega) (fun x hx => by have := planM_in 0 [pS] [] [] [] x hx; omega) B9 B10 d9 d10 w h9 h10).mono ?_
  rintro e w' ⟨v9, v10, rfl, hS, hD, hB⟩
  obtain ⟨g, cap, rfl, _⟩ := Kd.S_form hS (by rw [A0_L]; decide)
  obtain ⟨E10, e10, rfl⟩ := Kd.R_slice hD
  exact ⟨g, cap, E10, e10, rfl, hS, hD, hB⟩
/-- The name of the third section is stored. -/
theorem b_store {w W : World} {g cap : Nat} (hS : Kd.S k58 58 W w.heap.size (fun _ => True) (.slice (some ⟨g, 0, none⟩) A0.L.length cap) A0.L) :
    (∃ u, W.cell? ⟨g, 26, none⟩ = some (.string u)) ∧ W.frozen? ⟨g, 26, none⟩ = false ∧ Kd.S k58 58 (W.setCell ⟨g, 26, none⟩ (.string ⟨#[98]⟩)) w.heap.size (fun _ => True) (.slice (some ⟨g, 0, none⟩) A0.L.length cap) B0.L ∧ W.grownBy (W.setCell ⟨g, 26, none⟩ (.string ⟨#[98]⟩)) (some g) ∧ w.heap.size ≤ g ∧ ∃ cells, W.heap[g]? = some (.cells cells 58 (0, 0)) := by
  obtain ⟨g2, cap2, hv, hge, _, cells, hc⟩ := Kd.S_form hS (by rw [A0_L]; decide)
  injection hv with h1
  injection h1 with h1
  injection h1 with h1
  subst h1
  have hS2 := Kd.S_mono (ok' := fun k => True ∧ ¬ False) hS (fun _ _ => ⟨trivial, fun h => h⟩)
  obtain ⟨oki, c, hcl, hM, hcc, hfr, hoki, hH⟩ := Kd.S_elem hS2 z58 (2 : Int) (by decide) (by rw [A0_L]; decide)
  have hx : A0.L.getD (2 : Int).toNat z58 = A0.L[2] := by
    show A0.L.getD 2 _ = _
    rw [List.getD_eq_getElem?_getD, List.getElem?_eq_getElem (by rw [A0_L]; decide)]; rfl
  rw [hx] at hM
  obtain ⟨v10, v11, v12, rfl, g10, g11, g12⟩ := k58_openM hM
  refine ⟨⟨_, hcc 0 _ rfl⟩, hfr 0, ?_, ?_, hge, cells, hc⟩
  · have h := (Kd.S_seg (okg := fun _ => False) hH (by decide) (by rw [A0_L]; decide) (seg := [.string ⟨#[98]⟩]) (j := 0) (x' := { A0.L[2] with f0 := ⟨#[98]⟩ }) (by show 0 + 1 ≤ k58.sz; decide) (k58_mkM _ _ _ { A0.L[2] with f0 := ⟨#[98]⟩ } g10 g11 g12) (fun k hk => .inl hk) (fun k hk => hk.elim)).1
    exact Kd.S_mono h (fun _ _ => trivial)
  · exact (Kd.S_seg (okg := fun _ => False) hH (by decide) (by rw [A0_L]; decide) (seg := [.string ⟨#[98]⟩]) (j := 0) (x' := { A0.L[2] with f0 := ⟨#[98]⟩ }) (by show 0 + 1 ≤ k58.sz; decide) (k58_mkM _ _ _ { A0.L[2] with f0 := ⟨#[98]⟩ } g10 g11 g12) (fun k hk => .inl hk) (fun k hk => hk.elim)).2
theorem B0_len : B0.L.length = A0.L.length := by
  show (A0.L.set 2 _).length = _
  rw [List.length_set]
theorem models_AA (B9 B10 E9 E10 : Option Addr) (d9 d10 e9 e10 : Nat) (w : World) (h9 : Kd.C k58 w B9 A0.L.length A0.L) (h10 : Kd.C k65 w B10 A0.D.length A0.D) (j9 : Kd.C k58 w E9 A0.L.length A0.L) (j10 : Kd.C k65 w E10 A0.D.length A0.D) :
    Calls Tryd.prog 10 #[.agg #[.bool (flagB 0 1), .bool (flagB 0 2), .int .u8 3, .int .u8 0, .string ⟨#[]⟩, .int .u64 1, .int .u64 243, .int .u64 16, .int .u64 5, .int .u64 1, .slice B9 A0.L.length d9, .slice B10 A0.D.length d10], .agg #[.bool (flagB 0 1), .bool (flagB 0 2), .int .u8 3, .int .u8 0, .string ⟨#[]⟩, .int .u64 1, .int .u64 243, .int .u64 16, .int .u64 5, .int .u64 1, .slice E9 A0.L.length e9, .slice E10 A0.D.length e10]] w fun e w' => e = .returned (.bool true) ∧ Below w.heap.size w w' := by
  refine (models_any A0 A0 (by rw [A0_L]; decide) (Nat.le_trans (planM_D 0 [pS] [] [] []) (by decide)) B9 B10 E9 E10 d9 d10 e9 e10 w h9 h10 j9 j10).mono ?_
  rintro e w' ⟨rfl, hb⟩
  rw [eqC_true (diffR_nil.2 (eqM_refl A0))]
  exact ⟨rfl, hb⟩
theorem models_AB (B9 B10 E9 E10 : Option Addr) (d9 d10 e9 e10 : Nat) (w : World) (h9 : Kd.C k58 w B9 A0.L.length A0.L) (h10 : Kd.C k65 w B10 A0.D.length A0.D) (j9 : Kd.C k58 w E9 A0.L.length B0.L) (j10 : Kd.C k65 w E10 A0.D.length A0.D) :
    Calls Tryd.prog 10 #[.agg #[.bool (flagB 0 1), .bool (flagB 0 2), .int .u8 3, .int .u8 0, .string ⟨#[]⟩, .int .u64 1, .int .u64 243, .int .u64 16, .int .u64 5, .int .u64 1, .slice B9 A0.L.length d9, .slice B10 A0.D.length d10], .agg #[.bool (flagB 0 1), .bool (flagB 0 2), .int .u8 3, .int .u8 0, .string ⟨#[]⟩, .int .u64 1, .int .u64 243, .int .u64 16, .int .u64 5, .int .u64 1, .slice E9 A0.L.length e9, .slice E10 A0.D.length e10]] w fun e w' => e = .returned (.bool false) ∧ Below w.heap.size w w' := by
  have h := models_any A0 B0 (by rw [A0_L]; decide) (Nat.le_trans (planM_D 0 [pS] [] [] []) (by decide)) B9 B10 E9 E10 d9 d10 e9 e10 w h9 h10 (by rw [B0_len]; exact j9) j10
  rw [B0_len] at h
  refine h.mono ?_
  rintro e w' ⟨rfl, hb⟩
  rw [eqC_false (by rw [ab_diff]; decide)]
  exact ⟨rfl, hb⟩
theorem diff_AB (B9 B10 E9 E10 : Option Addr) (d9 d10 e9 e10 : Nat) (w : World) (h9 : Kd.C k58 w B9 A0.L.length A0.L) (h10 : Kd.C k65 w B10 A0.D.length A0.D) (j9 : Kd.C k58 w E9 A0.L.length B0.L) (j10 : Kd.C k65 w E10 A0.D.length A0.D) :
    Calls Tryd.prog 12 #[.agg #[.bool (flagB 0 1), .bool (flagB 0 2), .int .u8 3, .int .u8 0, .string ⟨#[]⟩, .int .u64 1, .int .u64 243, .int .u64 16, .int .u64 5, .int .u64 1, .slice B9 A0.L.length d9, .slice B10 A0.D.length d10], .agg #[.bool (flagB 0 1), .bool (flagB 0 2), .int .u8 3, .int .u8 0, .string ⟨#[]⟩, .int .u64 1, .int .u64 243, .int .u64 16, .int .u64 5, .int .u64 1, .slice E9 A0.L.length e9, .slice E10 A0.D.length e10]] w fun e w' => e = .returned (.string ⟨#[115, 101, 99, 116, 105, 111, 110, 32, 50, 32, 110, 97, 109, 101]⟩) ∧ Below w.heap.size w w' := by
  have h := diff_any A0 B0 (by rw [A0_L]; decide) (Nat.le_trans (planM_D 0 [pS] [] [] []) (by decide)) B9 B10 E9 E10 d9 d10 e9 e10 w h9 h10 (by rw [B0_len]; exact j9) j10
  rw [B0_len] at h
  refine h.mono ?_
  rintro e w' ⟨rfl, hb⟩
  rw [ab_diff]
  exact ⟨rfl, hb⟩
set_option maxRecDepth 100000 in
set_option maxHeartbeats 16000000 in
theorem speaks_any (w : World) : Calls Tryd.prog 7 #[] w fun e w' => e = .returned (.bool true) ∧ Below w.heap.size w w' := by
  have hP : Kd.C k74 (w.alloc (.cells #[.string ⟨#[97]⟩, .int .i64 0, .int .i64 0, .int .i64 0, .string ⟨#[97, 98, 99]⟩] 74)) (some ⟨w.heap.size, 0, none⟩) [pS].length [pS] := by
    have hb := blk_new w (.cells #[.string ⟨#[97]⟩, .int .i64 0, .int .i64 0, .int .i64 0, .string ⟨#[97, 98, 99]⟩] 74)
    refine ⟨rfl, by simp, fun _ => ⟨⟨w.heap.size, 0, none⟩, rfl, fun j x hj => ?_⟩⟩
    match j, hj with
    | 0, hj => cases hj; exact ⟨_, rfl, k74_mk _ pS, fun i u hu => by
        match i, hu with
        | 0, hu => cases hu; exact blk_cell hb 0
        | 1, hu => cases hu; exact blk_cell hb 1
        | 2, hu => cases hu; exact blk_cell hb 2
        | 3, hu => cases hu; exact blk_cell hb 3
        | 4, hu => cases hu; exact blk_cell hb 4⟩
  have HP := Lib.hid hP
  clear hP
  go_enter Tryd.func7, Tryd.ntmps7
  go_upto_region 2 with (first | (go_at_call 9; refine (made_any 0 [pS] [] [] [] (by intro x hx; simp at hx; subst hx; exact ⟨by decide, by decide⟩) (by intro x hx; cases hx) (some ⟨w.heap.size, 0, none⟩) none none none 1 0 0 0 _ HP.out (Kd.C_nil _ _) (Kd.C_nil _ _) (Kd.C_nil _ _)).mono ?_; rintro e w1 ⟨v9, v10, rfl, hR1, hD1, hB1⟩; obtain ⟨A9, c9, rfl, _, h91⟩ := Kd.R_reads hR1; obtain ⟨A10, c10, rfl, _, h101⟩ := Kd.R_reads hD1; have H9 := Lib.hid h91; have H10 := Lib.hid h101; have HB1 := Lib.hid hB1; clear hR1 hD1 hB1 h91 h101) | (go_at_call 8; refine (told_A0 A9 A10 c9 c10 w1 H9.out H10.out).mono ?_; rintro e w2 ⟨B9, B10, d9, d10, rfl, h58, h65, hB2⟩; have H58 := Lib.hid h58; have H65 := Lib.hid h65; have HB2 := Lib.hid hB2; clear h58 h65 hB2))
  have HB12 := Lib.hid (show Below w.heap.size w w2 from ((below_alloc (Below.refl w.heap.size w) _ : Below w.heap.size w _).trans (HB1.out.mono (by simp))).trans (HB2.out.mono (Nat.le_trans (by simp) HB1.out.size)))
  obtain ⟨wa, hwa⟩ : ∃ wa, wa = w2.alloc (.cells #[.bool (flagB 0 1), .bool (flagB 0 2), .int .u8 3, .int .u8 0, .string ⟨#[]⟩, .int .u64 1, .int .u64 243, .int .u64 16, .int .u64 5, .int .u64 1, .slice B9 A0.L.length d9, .slice B10 A0.D.length d10] 39) := ⟨_, rfl⟩
  have HA := Lib.hid (show wa.heap[w2.heap.size]? = some (.cells #[.bool (flagB 0 1), .bool (flagB 0 2), .int .u8 3, .int .u8 0, .string ⟨#[]⟩, .int .u64 1, .int .u64 243, .int .u64 16, .int .u64 5, .int .u64 1, .slice B9 A0.L.length d9, .slice B10 A0.D.length d10] 39 (0, 0)) by rw [hwa]; exact blk_new w2 _)
  have H58a := Lib.hid (show Kd.C k58 wa B9 A0.L.length A0.L from by rw [hwa]; exact Kd.C_alloc H58.out _)
  have H65a := Lib.hid (show Kd.C k65 wa B10 A0.D.length A0.D from by rw [hwa]; exact Kd.C_alloc H65.out _)
  have HBa := Lib.hid (show Below w.heap.size w wa from by rw [hwa]; exact below_alloc HB12.out _)
  have HGA := Lib.hid (show w.heap.size ≤ w2.heap.size from HB12.out.size)
  rw [← hwa]
  clear hwa H9 H10 HB1 HB2 HB12 H58 H65 HP
  obtain ⟨ga, hga⟩ : ∃ ga, ga = w2.heap.size := ⟨_, rfl⟩
  rw [← hga] at HA HGA ⊢
  clear hga
  have p0 := blk_cell HA.out 0
  have p1 := blk_cell HA.out 1
  have p2 := blk_cell HA.out 2
  have p3 := blk_cell HA.out 3
  have p4 := blk_cell HA.out 4
  have p5 := blk_cell HA.out 5
  have p6 := blk_cell HA.out 6
  have p7 := blk_cell HA.out 7
  have p8 := blk_cell HA.out 8
  have p9 := blk_cell HA.out 9
  have p10 := blk_cell HA.out 10
  have p11 := blk_cell HA.out 11
  simp only [List.getElem?_toArray, List.getElem?_cons_succ, List.getElem?_cons_zero] at p0 p1 p2 p3 p4 p5 p6 p7 p8 p9 p10 p11
  go_upto_region 3 with (first | (go_at_call 13; refine (copy_A0 B9 B10 d9 d10 _ H58a.out H65a.out).mono ?_; rintro e w3 ⟨g, cap, E10, e10, rfl, hS, hD, hB3⟩; have HS3 := Lib.hid hS; have HD3 := Lib.hid hD; have HB3 := Lib.hid hB3; clear hS hD hB3))
  clear p0 p1 p2 p3 p4 p5 p6 p7 p8 p9 p10 p11
  obtain ⟨wb, hwb⟩ : ∃ wb, wb = w3.alloc (.cells #[.bool (flagB 0 1), .bool (flagB 0 2), .int .u8 3, .int .u8 0, .string ⟨#[]⟩, .int .u64 1, .int .u64 243, .int .u64 16, .int .u64 5, .int .u64 1, .slice (some ⟨g, 0, none⟩) A0.L.length cap, .slice E10 A0.D.length e10] 39) := ⟨_, rfl⟩
  have HBb := Lib.hid (show Below wa.heap.size wa wb from by rw [hwb]; exact below_alloc HB3.out _)
  have HA3 := Lib.hid (blk_below HA.out HBb.out)
  have HB4 := Lib.hid (show wb.heap[w3.heap.size]? = some (.cells #[.bool (flagB 0 1), .bool (flagB 0 2), .int .u8 3, .int .u8 0, .string ⟨#[]⟩, .int .u64 1, .int .u64 243, .int .u64 16, .int .u64 5, .int .u64 1, .slice (some ⟨g, 0, none⟩) A0.L.length cap, .slice E10 A0.D.length e10] 39 (0, 0)) by rw [hwb]; exact blk_new w3 _)
  have HS4 := Lib.hid (show Kd.S k58 58 wb wa.heap.size (fun _ => True) (.slice (some ⟨g, 0, none⟩) A0.L.length cap) A0.L from by rw [hwb]; exact Kd.S_alloc HS3.out _)
  have HD4 := Lib.hid (show Kd.R k65 65 wb wa.heap.size (fun _ => True) (.slice E10 A0.D.length e10) A0.D from by rw [hwb]; exact Kd.R_alloc HD3.out _)
  rw [← hwb]
  clear hwb HS3 HD3 HB3
  obtain ⟨gb, hgb⟩ : ∃ gb, gb = w3.heap.size := ⟨_, rfl⟩
  rw [← hgb] at HB4 ⊢
  clear hgb
  obtain ⟨⟨u, hcell⟩, hfrz, hST, hSG, hge, cells, hgc⟩ := b_store HS4.out
  have HST := Lib.hid hST
  have HSG := Lib.hid hSG
  have HGC := Lib.hid hgc
  have hl3 : (A0.L.length : Int) = 3 := rfl
  clear hST hSG hgc
  have p0 := blk_cell HB4.out 0
  have p1 := blk_cell HB4.out 1
  have p2 := blk_cell HB4.out 2
  have p3 := blk_cell HB4.out 3
  have p4 := blk_cell HB4.out 4
  have p5 := blk_cell HB4.out 5
  have p6 := blk_cell HB4.out 6
  have p7 := blk_cell HB4.out 7
  have p8 := blk_cell HB4.out 8
  have p9 := blk_cell HB4.out 9
  have p10 := blk_cell HB4.out 10
  have p11 := blk_cell HB4.out 11
  simp only [List.getElem?_toArray, List.getElem?_cons_succ, List.getElem?_cons_zero] at p0 p1 p2 p3 p4 p5 p6 p7 p8 p9 p10 p11
  go_upto_region 6 with (fail)
  clear p0 p1 p2 p3 p4 p5 p6 p7 p8 p9 p10 p11
  obtain ⟨wc, hwc⟩ : ∃ wc, wc = wb.setCell ⟨g, 26, none⟩ (.string ⟨#[98]⟩) := ⟨_, rfl⟩
  rw [← hwc] at HST HSG
  have HBc := Lib.hid (show Below wa.heap.size wa wc from by rw [hwc]; exact HBb.out.setCell hge _)
  have HAc := Lib.hid (blk_grown HA3.out HSG.out (by intro he; injection he with he; exact blk_ne HA3.out HGC.out (by decide) he))
  have HBk := Lib.hid (blk_grown HB4.out HSG.out (by intro he; injection he with he; exact blk_ne HB4.out HGC.out (by decide) he))
  have HDc := Lib.hid (Kd.R_over' (v := .slice (some ⟨g, 0, none⟩) A0.L.length cap) HD4.out (fun k hk => ⟨_, by
    have h2 : g = k := by simpa [Value.ownBlock] using hk
    subst h2
    exact HGC.out⟩) (by decide) HSG.out)
  have HSc := Lib.hid (show Kd.C k58 wc (some ⟨g, 0, none⟩) A0.L.length B0.L from by
    obtain ⟨A, c, he, _, hc⟩ := Kd.R_reads (Kd.S_R HST.out)
    injection he with he
    subst he
    rw [← B0_len]; exact hc)
  have HDr := Lib.hid (show Kd.C k65 wc E10 A0.D.length A0.D from by
    obtain ⟨A, c, he, _, hc⟩ := Kd.R_reads HDc.out
    injection he with he
    subst he
    exact hc)
  rw [← hwc]
  clear hwc HA3 HB4 HS4 HD4 HST HSG HGC HBb hcell hfrz hge HA HDc
  have HAd := Lib.hid (blk_drew HAc.out)
  have HBd := Lib.hid (blk_drew HBk.out)
  have HMd := Lib.hid (show Below wc.heap.size wc wc.drew from below_drew1 (Below.refl _ _))
  refine start_ (n := 17) (S := fun w' => w'.heap[ga]? = some (.cells #[.bool (flagB 0 1), .bool (flagB 0 2), .int .u8 3, .int .u8 0, .string ⟨#[]⟩, .int .u64 1, .int .u64 243, .int .u64 16, .int .u64 5, .int .u64 1, .slice B9 A0.L.length d9, .slice B10 A0.D.length d10] 39 (0, 0)) ∧ w'.heap[gb]? = some (.cells #[.bool (flagB 0 1), .bool (flagB 0 2), .int .u8 3, .int .u8 0, .string ⟨#[]⟩, .int .u64 1, .int .u64 243, .int .u64 16, .int .u64 5, .int .u64 1, .slice (some ⟨g, 0, none⟩) A0.L.length cap, .slice E10 A0.D.length e10] 39 (0, 0))) (ds := []) #[false, false, false, false, false, false, false, false, false, false, false, false, false, false, false, false, false] (by kernel_rfl) (by rfl) (by rfl) ⟨HAd.out, HBd.out⟩ (fun hHeld => ?_)
  generalize wc.drew = wd at HAd HBd HMd hHeld ⊢
  clear HAc HBk
  refine take_ (i := 0) (N := some 18) (v := ?_) (a' := ?_) #[true, false, false, false, false, false, false, false, false, false, false, false, false, false, false, false, false] rfl rfl (by kernel_rfl) (fun _ _ _ h => h) (Or.inl ⟨by rfl, ?_⟩) hHeld ?_ ?_
  rotate_left
  · rintro w' ⟨s0, s1⟩
    have x_0 := blk_cell s0 0
    have x_1 := blk_cell s0 1
    have x_2 := blk_cell s0 2
    have x_3 := blk_cell s0 3
    have x_4 := blk_cell s0 4
    have x_5 := blk_cell s0 5
    have x_6 := blk_cell s0 6
    have x_7 := blk_cell s0 7
    have x_8 := blk_cell s0 8
    have x_9 := blk_cell s0 9
    have x_10 := blk_cell s0 10
    have x_11 := blk_cell s0 11
    have y_0 := blk_cell s1 0
    have y_1 := blk_cell s1 1
    have y_2 := blk_cell s1 2
    have y_3 := blk_cell s1 3
    have y_4 := blk_cell s1 4
    have y_5 := blk_cell s1 5
    have y_6 := blk_cell s1 6
    have y_7 := blk_cell s1 7
    have y_8 := blk_cell s1 8
    have y_9 := blk_cell s1 9
    have y_10 := blk_cell s1 10
    have y_11 := blk_cell s1 11
    simp only [List.getElem?_toArray, List.getElem?_cons_succ, List.getElem?_cons_zero] at x_0 x_1 x_2 x_3 x_4 x_5 x_6 x_7 x_8 x_9 x_10 x_11 y_0 y_1 y_2 y_3 y_4 y_5 y_6 y_7 y_8 y_9 y_10 y_11
    go_simp
    with_reducible rfl
  rotate_left
  · simp only [Act.put, List.setIfInBounds_toArray, List.set_cons_zero, List.set_cons_succ]
    rfl
  refine take_ (i := 1) (N := some 19) (v := ?_) (a' := ?_) #[true, true, false, false, false, false, false, false, false, false, false, false, false, false, false, false, false] rfl rfl (by kernel_rfl) (fun _ _ _ h => h) (Or.inl ⟨by rfl, ?_⟩) hHeld ?_ ?_
  rotate_left
  · rintro w' ⟨s0, s1⟩
    have x_0 := blk_cell s0 0
    have x_1 := blk_cell s0 1
    have x_2 := blk_cell s0 2
    have x_3 := blk_cell s0 3
    have x_4 := blk_cell s0 4
    have x_5 := blk_cell s0 5
    have x_6 := blk_cell s0 6
    have x_7 := blk_cell s0 7
    have x_8 := blk_cell s0 8
    have x_9 := blk_cell s0 9
    have x_10 := blk_cell s0 10
    have x_11 := blk_cell s0 11
    have y_0 := blk_cell s1 0
    have y_1 := blk_cell s1 1
    have y_2 := blk_cell s1 2
    have y_3 := blk_cell s1 3
    have y_4 := blk_cell s1 4
    have y_5 := blk_cell s1 5
    have y_6 := blk_cell s1 6
    have y_7 := blk_cell s1 7
    have y_8 := blk_cell s1 8
    have y_9 := blk_cell s1 9
    have y_10 := blk_cell s1 10
    have y_11 := blk_cell s1 11
    simp only [List.getElem?_toArray, List.getElem?_cons_succ, List.getElem?_cons_zero] at x_0 x_1 x_2 x_3 x_4 x_5 x_6 x_7 x_8 x_9 x_10 x_11 y_0 y_1 y_2 y_3 y_4 y_5 y_6 y_7 y_8 y_9 y_10 y_11
    go_simp
    with_reducible rfl
  rotate_left
  · simp only [Act.put, List.setIfInBounds_toArray, List.set_cons_zero, List.set_cons_succ]
    rfl
  refine one_ (i := 2) (N := some 20) #[true, true, true, false, false, false, false, false, false, false, false, false, false, false, false, false, false] rfl rfl (by kernel_rfl) (by decide) (fun K hK => ?_)
  refine goes_ Tryd.func13 (by kernel_rfl) rfl #[.agg #[.bool (flagB 0 1), .bool (flagB 0 2), .int .u8 3, .int .u8 0, .string ⟨#[]⟩, .int .u64 1, .int .u64 243, .int .u64 16, .int .u64 5, .int .u64 1, .slice B9 A0.L.length d9, .slice B10 A0.D.length d10]] (by rfl) rfl rfl (by first | rfl | (simp only [List.map_toArray, List.map_cons, List.map_nil]; rfl)) ?_
  refine (copy_A0 B9 B10 d9 d10 wd (Kd.C_below H58a.out (HBc.out.trans (HMd.out.mono HBc.out.size))) (Kd.C_below H65a.out (HBc.out.trans (HMd.out.mono HBc.out.size)))).mono ?_
  rintro e w4 ⟨g2, cap2, F10, f10, rfl, hS2, hD2, hB4⟩
  refine ⟨_, rfl, ?_⟩
  have HB4 := Lib.hid hB4
  obtain ⟨X9, x9, hx9, _, hc9⟩ := Kd.R_reads (Kd.S_R hS2)
  obtain ⟨X10, x10, hx10, _, hc10⟩ := Kd.R_reads hD2
  injection hx9 with hx9
  injection hx10 with hx10
  subst hx9
  subst hx10
  have HC9 := Lib.hid hc9
  have HC10 := Lib.hid hc10
  clear hS2 hD2 hB4 hc9 hc10
  refine hK.out _ _ ⟨blk_below HAd.out HB4.out, blk_below HBd.out HB4.out⟩ (fun hHeld => ?_)
  clear hK K
  refine norm_ (a' := ?_) ?_ ?_
  rotate_left
  · show Act.put _ (some 20) _ = _
    simp only [Act.put, List.setIfInBounds_toArray, List.set_cons_zero, List.set_cons_succ]
    rfl
  refine one_ (i := 3) (N := some 21) #[true, true, true, true, false, false, false, false, false, false, false, false, false, false, false, false, false] rfl rfl (by kernel_rfl) (by decide) (fun K hK => ?_)
  refine goes_ Tryd.func10 (by kernel_rfl) rfl #[.agg #[.bool (flagB 0 1), .bool (flagB 0 2), .int .u8 3, .int .u8 0, .string ⟨#[]⟩, .int .u64 1, .int .u64 243, .int .u64 16, .int .u64 5, .int .u64 1, .slice B9 A0.L.length d9, .slice B10 A0.D.length d10], .agg #[.bool (flagB 0 1), .bool (flagB 0 2), .int .u8 3, .int .u8 0, .string ⟨#[]⟩, .int .u64 1, .int .u64 243, .int .u64 16, .int .u64 5, .int .u64 1, .slice (some ⟨g2, 0, none⟩) A0.L.length cap2, .slice F10 A0.D.length f10]] (by rfl) rfl rfl (by first | rfl | (simp only [List.map_toArray, List.map_cons, List.map_nil]; rfl)) ?_
  refine (models_AA B9 B10 (some ⟨g2, 0, none⟩) F10 d9 d10 cap2 f10 w4 (Kd.C_below H58a.out (HBc.out.trans ((HMd.out.trans (HB4.out.mono HMd.out.size)).mono HBc.out.size))) (Kd.C_below H65a.out (HBc.out.trans ((HMd.out.trans (HB4.out.mono HMd.out.size)).mono HBc.out.size))) HC9.out HC10.out).mono ?_
  rintro e w5 ⟨rfl, hB5⟩
  refine ⟨_, rfl, ?_⟩
  have HB5 := Lib.hid (HB4.out.trans (hB5.mono HB4.out.size))
  clear hB5 HC9 HC10
  refine hK.out _ _ ⟨blk_below HAd.out HB5.out, blk_below HBd.out HB5.out⟩ (fun hHeld => ?_)
  clear hK K
  refine norm_ (a' := ?_) ?_ ?_
  rotate_left
  · show Act.put _ (some 21) _ = _
    simp only [Act.put, List.setIfInBounds_toArray, List.set_cons_zero, List.set_cons_succ]
    rfl
  refine pure_ (i := 4) (N := some 22) (v := ?_) (a' := ?_) #[true, true, true, true, true, false, false, false, false, false, false, false, false, false, false, false, false] rfl rfl (by kernel_rfl) (fun _ _ _ h => h) (Or.inl ⟨by rfl, ?_⟩) ?_ ?_
  rotate_left
  · intro w'
    go_simp
    with_reducible rfl
  rotate_left
  · simp only [Act.put, List.setIfInBounds_toArray, List.set_cons_zero, List.set_cons_succ]
    rfl
  refine take_ (i := 5) (N := some 23) (v := ?_) (a' := ?_) #[true, true, true, true, true, true, false, false, false, false, false, false, false, false, false, false, false] rfl rfl (by kernel_rfl) (fun _ _ _ h => h) (Or.inl ⟨by rfl, ?_⟩) hHeld ?_ ?_
  rotate_left
  · rintro w' ⟨s0, s1⟩
    have x_0 := blk_cell s0 0
    have x_1 := blk_cell s0 1
    have x_2 := blk_cell s0 2
    have x_3 := blk_cell s0 3
    have x_4 := blk_cell s0 4
    have x_5 := blk_cell s0 5
    have x_6 := blk_cell s0 6
    have x_7 := blk_cell s0 7
    have x_8 := blk_cell s0 8
    have x_9 := blk_cell s0 9
    have x_10 := blk_cell s0 10
    have x_11 := blk_cell s0 11
    have y_0 := blk_cell s1 0
    have y_1 := blk_cell s1 1
    have y_2 := blk_cell s1 2
    have y_3 := blk_cell s1 3
    have y_4 := blk_cell s1 4
    have y_5 := blk_cell s1 5
    have y_6 := blk_cell s1 6
    have y_7 := blk_cell s1 7
    have y_8 := blk_cell s1 8
    have y_9 := blk_cell s1 9
    have y_10 := blk_cell s1 10
    have y_11 := blk_cell s1 11
    simp only [List.getElem?_toArray, List.getElem?_cons_succ, List.getElem?_cons_zero] at x_0 x_1 x_2 x_3 x_4 x_5 x_6 x_7 x_8 x_9 x_10 x_11 y_0 y_1 y_2 y_3 y_4 y_5 y_6 y_7 y_8 y_9 y_10 y_11
    go_simp
    with_reducible rfl
  rotate_left
  · simp only [Act.put, List.setIfInBounds_toArray, List.set_cons_zero, List.set_cons_succ]
    rfl
  refine take_ (i := 6) (N := some 24) (v := ?_) (a' := ?_) #[true, true, true, true, true, true, true, false, false, false, false, false, false, false, false, false, false] rfl rfl (by kernel_rfl) (fun _ _ _ h => h) (Or.inl ⟨by rfl, ?_⟩) hHeld ?_ ?_
  rotate_left
  · rintro w' ⟨s0, s1⟩
    have x_0 := blk_cell s0 0
    have x_1 := blk_cell s0 1
    have x_2 := blk_cell s0 2
    have x_3 := blk_cell s0 3
    have x_4 := blk_cell s0 4
    have x_5 := blk_cell s0 5
    have x_6 := blk_cell s0 6
    have x_7 := blk_cell s0 7
    have x_8 := blk_cell s0 8
    have x_9 := blk_cell s0 9
    have x_10 := blk_cell s0 10
    have x_11 := blk_cell s0 11
    have y_0 := blk_cell s1 0
    have y_1 := blk_cell s1 1
    have y_2 := blk_cell s1 2
    have y_3 := blk_cell s1 3
    have y_4 := blk_cell s1 4
    have y_5 := blk_cell s1 5
    have y_6 := blk_cell s1 6
    have y_7 := blk_cell s1 7
    have y_8 := blk_cell s1 8
    have y_9 := blk_cell s1 9
    have y_10 := blk_cell s1 10
    have y_11 := blk_cell s1 11
    simp only [List.getElem?_toArray, List.getElem?_cons_succ, List.getElem?_cons_zero] at x_0 x_1 x_2 x_3 x_4 x_5 x_6 x_7 x_8 x_9 x_10 x_11 y_0 y_1 y_2 y_3 y_4 y_5 y_6 y_7 y_8 y_9 y_10 y_11
    go_simp
    with_reducible rfl
  rotate_left
  · simp only [Act.put, List.setIfInBounds_toArray, List.set_cons_zero, List.set_cons_succ]
    rfl
  refine one_ (i := 7) (N := some 25) #[true, true, true, true, true, true, true, true, false, false, false, false, false, false, false, false, false] rfl rfl (by kernel_rfl) (by decide) (fun K hK => ?_)
  refine goes_ Tryd.func10 (by kernel_rfl) rfl #[.agg #[.bool (flagB 0 1), .bool (flagB 0 2), .int .u8 3, .int .u8 0, .string ⟨#[]⟩, .int .u64 1, .int .u64 243, .int .u64 16, .int .u64 5, .int .u64 1, .slice B9 A0.L.length d9, .slice B10 A0.D.length d10], .agg #[.bool (flagB 0 1), .bool (flagB 0 2), .int .u8 3, .int .u8 0, .string ⟨#[]⟩, .int .u64 1, .int .u64 243, .int .u64 16, .int .u64 5, .int .u64 1, .slice (some ⟨g, 0, none⟩) A0.L.length cap, .slice E10 A0.D.length e10]] (by rfl) rfl rfl (by first | rfl | (simp only [List.map_toArray, List.map_cons, List.map_nil]; rfl)) ?_
  refine (models_AB B9 B10 (some ⟨g, 0, none⟩) E10 d9 d10 cap e10 w5 (Kd.C_below H58a.out (HBc.out.trans ((HMd.out.trans (HB5.out.mono HMd.out.size)).mono HBc.out.size))) (Kd.C_below H65a.out (HBc.out.trans ((HMd.out.trans (HB5.out.mono HMd.out.size)).mono HBc.out.size))) (Kd.C_below HSc.out (HMd.out.trans (HB5.out.mono HMd.out.size))) (Kd.C_below HDr.out (HMd.out.trans (HB5.out.mono HMd.out.size)))).mono ?_
  rintro e w6 ⟨rfl, hB6⟩
  refine ⟨_, rfl, ?_⟩
  have HB6 := Lib.hid (HB5.out.trans (hB6.mono HB5.out.size))
  clear hB6
  refine hK.out _ _ ⟨blk_below HAd.out HB6.out, blk_below HBd.out HB6.out⟩ (fun hHeld => ?_)
  clear hK K
  refine norm_ (a' := ?_) ?_ ?_
  rotate_left
  · show Act.put _ (some 25) _ = _
    simp only [Act.put, List.setIfInBounds_toArray, List.set_cons_zero, List.set_cons_succ]
    rfl
  refine pure_ (i := 8) (N := some 26) (v := ?_) (a' := ?_) #[true, true, true, true, true, true, true, true, true, false, false, false, false, false, false, false, false] rfl rfl (by kernel_rfl) (fun _ _ _ h => h) (Or.inl ⟨by rfl, ?_⟩) ?_ ?_
  rotate_left
  · intro w'
    go_simp
    with_reducible rfl
  rotate_left
  · simp only [Act.put, List.setIfInBounds_toArray, List.set_cons_zero, List.set_cons_succ]
    rfl
  refine pure_ (i := 9) (N := some 27) (v := ?_) (a' := ?_) #[true, true, true, true, true, true, true, true, true, true, false, false, false, false, false, false, false] rfl rfl (by kernel_rfl) (fun _ _ _ h => h) (Or.inl ⟨by rfl, ?_⟩) ?_ ?_
  rotate_left
  · intro w'
    go_simp
    with_reducible rfl
  rotate_left
  · simp only [Act.put, List.setIfInBounds_toArray, List.set_cons_zero, List.set_cons_succ]
    rfl
  refine pure_ (i := 10) (N := some 28) (v := ?_) (a' := ?_) #[true, true, true, true, true, true, true, true, true, true, true, false, false, false, false, false, false] rfl rfl (by kernel_rfl) (fun _ _ _ h => h) (Or.inl ⟨by rfl, ?_⟩) ?_ ?_
  rotate_left
  · intro w'
    go_simp
    with_reducible rfl
  rotate_left
  · simp only [Act.put, List.setIfInBounds_toArray, List.set_cons_zero, List.set_cons_succ]
    rfl
  refine take_ (i := 11) (N := some 29) (v := ?_) (a' := ?_) #[true, true, true, true, true, true, true, true, true, true, true, true, false, false, false, false, false] rfl rfl (by kernel_rfl) (fun _ _ _ h => h) (Or.inl ⟨by rfl, ?_⟩) hHeld ?_ ?_
  rotate_left
  · rintro w' ⟨s0, s1⟩
    have x_0 := blk_cell s0 0
    have x_1 := blk_cell s0 1
    have x_2 := blk_cell s0 2
    have x_3 := blk_cell s0 3
    have x_4 := blk_cell s0 4
    have x_5 := blk_cell s0 5
    have x_6 := blk_cell s0 6
    have x_7 := blk_cell s0 7
    have x_8 := blk_cell s0 8
    have x_9 := blk_cell s0 9
    have x_10 := blk_cell s0 10
    have x_11 := blk_cell s0 11
    have y_0 := blk_cell s1 0
    have y_1 := blk_cell s1 1
    have y_2 := blk_cell s1 2
    have y_3 := blk_cell s1 3
    have y_4 := blk_cell s1 4
    have y_5 := blk_cell s1 5
    have y_6 := blk_cell s1 6
    have y_7 := blk_cell s1 7
    have y_8 := blk_cell s1 8
    have y_9 := blk_cell s1 9
    have y_10 := blk_cell s1 10
    have y_11 := blk_cell s1 11
    simp only [List.getElem?_toArray, List.getElem?_cons_succ, List.getElem?_cons_zero] at x_0 x_1 x_2 x_3 x_4 x_5 x_6 x_7 x_8 x_9 x_10 x_11 y_0 y_1 y_2 y_3 y_4 y_5 y_6 y_7 y_8 y_9 y_10 y_11
    go_simp
    with_reducible rfl
  rotate_left
  · simp only [Act.put, List.setIfInBounds_toArray, List.set_cons_zero, List.set_cons_succ]
    rfl
  refine take_ (i := 12) (N := some 30) (v := ?_) (a' := ?_) #[true, true, true, true, true, true, true, true, true, true, true, true, true, false, false, false, false] rfl rfl (by kernel_rfl) (fun _ _ _ h => h) (Or.inl ⟨by rfl, ?_⟩) hHeld ?_ ?_
  rotate_left
  · rintro w' ⟨s0, s1⟩
    have x_0 := blk_cell s0 0
    have x_1 := blk_cell s0 1
    have x_2 := blk_cell s0 2
    have x_3 := blk_cell s0 3
    have x_4 := blk_cell s0 4
    have x_5 := blk_cell s0 5
    have x_6 := blk_cell s0 6
    have x_7 := blk_cell s0 7
    have x_8 := blk_cell s0 8
    have x_9 := blk_cell s0 9
    have x_10 := blk_cell s0 10
    have x_11 := blk_cell s0 11
    have y_0 := blk_cell s1 0
    have y_1 := blk_cell s1 1
    have y_2 := blk_cell s1 2
    have y_3 := blk_cell s1 3
    have y_4 := blk_cell s1 4
    have y_5 := blk_cell s1 5
    have y_6 := blk_cell s1 6
    have y_7 := blk_cell s1 7
    have y_8 := blk_cell s1 8
    have y_9 := blk_cell s1 9
    have y_10 := blk_cell s1 10
    have y_11 := blk_cell s1 11
    simp only [List.getElem?_toArray, List.getElem?_cons_succ, List.getElem?_cons_zero] at x_0 x_1 x_2 x_3 x_4 x_5 x_6 x_7 x_8 x_9 x_10 x_11 y_0 y_1 y_2 y_3 y_4 y_5 y_6 y_7 y_8 y_9 y_10 y_11
    go_simp
    with_reducible rfl
  rotate_left
  · simp only [Act.put, List.setIfInBounds_toArray, List.set_cons_zero, List.set_cons_succ]
    rfl
  refine one_ (i := 13) (N := some 31) #[true, true, true, true, true, true, true, true, true, true, true, true, true, true, false, false, false] rfl rfl (by kernel_rfl) (by decide) (fun K hK => ?_)
  refine goes_ Tryd.func12 (by kernel_rfl) rfl #[.agg #[.bool (flagB 0 1), .bool (flagB 0 2), .int .u8 3, .int .u8 0, .string ⟨#[]⟩, .int .u64 1, .int .u64 243, .int .u64 16, .int .u64 5, .int .u64 1, .slice B9 A0.L.length d9, .slice B10 A0.D.length d10], .agg #[.bool (flagB 0 1), .bool (flagB 0 2), .int .u8 3, .int .u8 0, .string ⟨#[]⟩, .int .u64 1, .int .u64 243, .int .u64 16, .int .u64 5, .int .u64 1, .slice (some ⟨g, 0, none⟩) A0.L.length cap, .slice E10 A0.D.length e10]] (by rfl) rfl rfl (by first | rfl | (simp only [List.map_toArray, List.map_cons, List.map_nil]; rfl)) ?_
  refine (diff_AB B9 B10 (some ⟨g, 0, none⟩) E10 d9 d10 cap e10 w6 (Kd.C_below H58a.out (HBc.out.trans ((HMd.out.trans (HB6.out.mono HMd.out.size)).mono HBc.out.size))) (Kd.C_below H65a.out (HBc.out.trans ((HMd.out.trans (HB6.out.mono HMd.out.size)).mono HBc.out.size))) (Kd.C_below HSc.out (HMd.out.trans (HB6.out.mono HMd.out.size))) (Kd.C_below HDr.out (HMd.out.trans (HB6.out.mono HMd.out.size)))).mono ?_
  rintro e w7 ⟨rfl, hB7⟩
  refine ⟨_, rfl, ?_⟩
  have HB7 := Lib.hid (HB6.out.trans (hB7.mono HB6.out.size))
  clear hB7
  refine hK.out _ _ ⟨blk_below HAd.out HB7.out, blk_below HBd.out HB7.out⟩ (fun hHeld => ?_)
  clear hK K
  refine norm_ (a' := ?_) ?_ ?_
  rotate_left
  · show Act.put _ (some 31) _ = _
    simp only [Act.put, List.setIfInBounds_toArray, List.set_cons_zero, List.set_cons_succ]
    rfl
  refine pure_ (i := 14) (N := some 32) (v := ?_) (a' := ?_) #[true, true, true, true, true, true, true, true, true, true, true, true, true, true, true, false, false] rfl rfl (by kernel_rfl) (fun _ _ _ h => h) (Or.inl ⟨by rfl, ?_⟩) ?_ ?_
  rotate_left
  · intro w'
    go_simp
    with_reducible rfl
  rotate_left
  · simp only [Act.put, List.setIfInBounds_toArray, List.set_cons_zero, List.set_cons_succ]
    rfl
  refine pure_ (i := 15) (N := some 33) (v := ?_) (a' := ?_) #[true, true, true, true, true, true, true, true, true, true, true, true, true, true, true, true, false] rfl rfl (by kernel_rfl) (fun _ _ _ h => h) (Or.inl ⟨by rfl, ?_⟩) ?_ ?_
  rotate_left
  · intro w'
    go_simp
    with_reducible rfl
  rotate_left
  · simp only [Act.put, List.setIfInBounds_toArray, List.set_cons_zero, List.set_cons_succ]
    rfl
  refine pure_ (i := 16) (N := some 0) (v := ?_) (a' := ?_) #[true, true, true, true, true, true, true, true, true, true, true, true, true, true, true, true, true] rfl rfl (by kernel_rfl) (fun _ _ _ h => h) (Or.inl ⟨by rfl, ?_⟩) ?_ ?_
  rotate_left
  · intro w'
    go_simp
    with_reducible rfl
  rotate_left
  · simp only [Act.put, List.setIfInBounds_toArray, List.set_cons_zero, List.set_cons_succ]
    rfl
  refine done_ (by kernel_rfl) ?_
  go_wp2
  go_ret
  exact ⟨rfl, (HBa.out.trans (HBc.out.mono HBa.out.size)).trans ((HMd.out.trans (HB7.out.mono HMd.out.size)).mono (Nat.le_trans HBa.out.size HBc.out.size))⟩
end Go.Proofs.YthphhogljniofaaDoor

/- Contracts over this translation, plans' models: made and told. -/
import Derived.Test.YtkbamfiokhmpjaaGreatDoorXKdM17K
import Derived.Test.YtkbamfiokhmpjaaGreatDoorXKdM17G
namespace Go.Proofs.YtkbamfiokhmpjaaGreatDoorX.Kd
open Go.RowKit Go.Proofs.YtkbamfiokhmpjaaGreatDoor Go.Proofs.YtkbamfiokhmpjaaGreatDoorW.PrintWords
structure S38 where
  f0 : Int
  f1 : List S60
  f2 : List S62
  f3 : List S72
  f4 : List ByteArray
def k38 : Kd S38 := Kd.iso (Kd.pair (Kd.int .i64) (Kd.pair (Kd.slice 60 k60) (Kd.pair (Kd.slice 62 k62) (Kd.pair (Kd.slice 72 k72) (Kd.slice 9 Kd.string))))) (fun x : S38 => (x.f0, x.f1, x.f2, x.f3, x.f4))
theorem k38_open {w : World} {x : S38} {cs : List Value} (h : k38.K w x cs) : ∃ A1 c1 A2 c2 A3 c3 A4 c4, cs = [.int .i64 x.f0, .slice A1 x.f1.length c1, .slice A2 x.f2.length c2, .slice A3 x.f3.length c3, .slice A4 x.f4.length c4] ∧ k60.C w A1 x.f1.length x.f1 ∧ k62.C w A2 x.f2.length x.f2 ∧ k72.C w A3 x.f3.length x.f3 ∧ Kd.string.C w A4 x.f4.length x.f4 := by
  obtain ⟨_, _, rfl, rfl, ⟨_, _, rfl, ⟨A1, c1, rfl, l1, g1⟩, ⟨_, _, rfl, ⟨A2, c2, rfl, l2, g2⟩, ⟨_, _, rfl, ⟨A3, c3, rfl, l3, g3⟩, ⟨A4, c4, rfl, l4, g4⟩⟩⟩⟩⟩ := h
  exact ⟨A1, c1, A2, c2, A3, c3, A4, c4, rfl, g1, g2, g3, g4⟩
end Go.Proofs.YtkbamfiokhmpjaaGreatDoorX.Kd
namespace Go.Proofs.YtkbamfiokhmpjaaGreatDoor
set_option linter.unusedVariables false
set_option linter.unusedSimpArgs false
open Go.RowKit Go.Proofs.YtkbamfiokhmpjaaGreatDoorX.Kd Go.Proofs.YtkbamfiokhmpjaaGreatDoorW.PrintWords Go.Proofs.YtkbamfiokhmpjaaGreatDoorW.PrintLast Go.Proofs.YtkbamfiokhmpjaaGreatDoorW.PrintMore

/-- A model, as data. -/
structure MdD where
  big : Bool
  wide : Bool
  abi : Int
  ver : Int
  pad : ByteArray
  ty : Int
  mc : Int
  en : Int
  fg : Int
  nm : Int
  L : List S80
  D : List S83
/-- A plan's model. -/
def planM (fl : Int) (ps : List S60) (ys : List S62) (rs : List S72) (ds : List ByteArray) : MdD := ⟨flagB fl 1, flagB fl 2, 3, 0, ⟨#[]⟩, 1, 243, 16, 5, 1, (madeSecs fl ps ys rs).map secT, (segsR ds).map segT⟩
theorem symsK_len (ys : List S62) (n : Int) (b : Nat) : (symsK ys n b 8).length ≤ 8 := by
  unfold symsK
  rw [List.length_map]
  exact Nat.le_trans (List.length_filter_le _ _) (by rw [List.length_take]; omega)
theorem symbolsR_len (ys : List S62) (n : Int) : (symbolsR ys n).length ≤ 17 := by
  unfold symbolsR
  have h1 := symsK_len ys n 0
  have h2 := symsK_len ys n 1
  simp only [List.length_append, List.length_singleton]
  omega
theorem secR_in (x : S60) : (secR x).f10.length ≤ 17 ∧ (secR x).f11.length ≤ 6 ∧ (secR x).f12.length ≤ 2 := ⟨by simp [secR], by simp [secR], by simp [secR]⟩
theorem madeSecs_len (fl : Int) (ps : List S60) (ys : List S62) (rs : List S72) : (madeSecs fl ps ys rs).length ≤ 13 := by
  have h := (sectionsR_len ps).2
  unfold madeSecs moreSecs
  split
  · simp only [List.length_append]
    split <;> split <;> split <;> split <;> simp <;> omega
  · simp only [List.length_append, List.length_nil]; omega
theorem madeSecs_in (fl : Int) (ps : List S60) (ys : List S62) (rs : List S72) : ∀ x ∈ madeSecs fl ps ys rs, x.f10.length ≤ 17 ∧ x.f11.length ≤ 6 ∧ x.f12.length ≤ 2 := by
  have hz : ∀ x : S54, x.f10 = [] → x.f11 = [] → x.f12 = [] → x.f10.length ≤ 17 ∧ x.f11.length ≤ 6 ∧ x.f12.length ≤ 2 := fun x h1 h2 h3 => by rw [h1, h2, h3]; simp
  intro x hx
  unfold madeSecs at hx
  rcases List.mem_append.1 hx with hx | hx
  · unfold sectionsR at hx
    rcases List.mem_append.1 hx with hx | hx
    · simp only [List.mem_cons, List.not_mem_nil, or_false] at hx
      rcases hx with rfl | rfl <;> exact hz _ rfl rfl rfl
    · obtain ⟨y, _, rfl⟩ := List.mem_map.1 hx
      exact secR_in y
  · split at hx
    · unfold moreSecs at hx
      dsimp only at hx
      rcases List.mem_append.1 hx with hx | hx
      · rcases List.mem_append.1 hx with hx | hx
        · rcases List.mem_append.1 hx with hx | hx
          · rcases List.mem_append.1 hx with hx | hx
            · split at hx
              · simp only [List.mem_cons, List.not_mem_nil, or_false] at hx; subst hx; exact hz _ rfl rfl rfl
              · cases hx
            · simp only [List.mem_cons, List.not_mem_nil, or_false] at hx; subst hx
              exact ⟨symbolsR_len _ _, by simp [symtabS, z54], by simp [symtabS, z54]⟩
          · split at hx
            · simp only [List.mem_cons, List.not_mem_nil, or_false] at hx; subst hx
              exact ⟨by simp [relS, z54], by simp only [relS, List.length_map, List.length_take]; omega, by simp [relS, z54]⟩
            · cases hx
        · split at hx
          · simp only [List.mem_cons, List.not_mem_nil, or_false] at hx; subst hx
            exact ⟨by simp [groupS, z54], by simp [groupS, z54], by simp [groupS]⟩
          · cases hx
      · split at hx
        · simp only [List.mem_cons, List.not_mem_nil, or_false] at hx; subst hx; exact hz _ rfl rfl rfl
        · cases hx
    · cases hx
theorem segsR_le (ds : List ByteArray) : (segsR ds).length ≤ 3 := by
  unfold segsR
  rw [List.length_map, List.length_zipIdx, List.length_take]; omega
theorem planM_L (fl : Int) (ps : List S60) (ys : List S62) (rs : List S72) (ds : List ByteArray) : (planM fl ps ys rs ds).L.length ≤ 13 := by
  show ((madeSecs fl ps ys rs).map secT).length ≤ 13
  rw [List.length_map]; exact madeSecs_len _ _ _ _
theorem planM_D (fl : Int) (ps : List S60) (ys : List S62) (rs : List S72) (ds : List ByteArray) : (planM fl ps ys rs ds).D.length ≤ 3 := by
  show ((segsR ds).map segT).length ≤ 3
  rw [List.length_map]; exact segsR_le _
theorem planM_in (fl : Int) (ps : List S60) (ys : List S62) (rs : List S72) (ds : List ByteArray) : ∀ x ∈ (planM fl ps ys rs ds).L, x.f10.length ≤ 17 ∧ x.f11.length ≤ 6 ∧ x.f12.length ≤ 2 := by
  intro x hx
  obtain ⟨y, hy, rfl⟩ := List.mem_map.1 hx
  have h := madeSecs_in fl ps ys rs y hy
  exact ⟨by simpa [secT] using h.1, by simpa [secT] using h.2.1, h.2.2⟩
theorem told_plan (fl : Int) (ps : List S60) (ys : List S62) (rs : List S72) (ds : List ByteArray) (A9 A10 : Option Addr) (c9 c10 : Nat) (w : World) (h9 : Kd.C k54 w A9 (madeSecs fl ps ys rs).length (madeSecs fl ps ys rs)) (h10 : Kd.C k76 w A10 (segsR ds).length (segsR ds)) :
    Calls Tryz.prog 6 #[.agg #[.bool (flagB fl 2), .bool (flagB fl 1), .int .u8 3, .int .u8 0, .int .u64 1, .int .u64 243, .int .u64 16, .int .u64 5, .int .u64 1, .slice A9 (madeSecs fl ps ys rs).length c9, .slice A10 (segsR ds).length c10]] w fun e w' => ∃ B9 B10 d9 d10, e = .returned (.agg #[.bool (flagB fl 1), .bool (flagB fl 2), .int .u8 3, .int .u8 0, .string ⟨#[]⟩, .int .u64 1, .int .u64 243, .int .u64 16, .int .u64 5, .int .u64 1, .slice B9 (planM fl ps ys rs ds).L.length d9, .slice B10 (planM fl ps ys rs ds).D.length d10]) ∧ Kd.C k80 w' B9 (planM fl ps ys rs ds).L.length (planM fl ps ys rs ds).L ∧ Kd.C k83 w' B10 (planM fl ps ys rs ds).D.length (planM fl ps ys rs ds).D ∧ Below w.heap.size w w' := by
  have hl := madeSecs_len fl ps ys rs
  have hs := segsR_le ds
  refine (told_any (flagB fl 2) (flagB fl 1) 3 0 1 243 16 5 1 (madeSecs fl ps ys rs) (segsR ds) (by omega) (by omega) (fun x hx => by have := madeSecs_in fl ps ys rs x hx; omega) A9 A10 c9 c10 w h9 h10).mono ?_
  rintro e w' ⟨v9, v10, rfl, hR, hD, hB⟩
  obtain ⟨B9, d9, rfl, _, hC9⟩ := Kd.R_reads hR
  obtain ⟨B10, d10, rfl, _, hC10⟩ := Kd.R_reads hD
  exact ⟨B9, B10, d9, d10, rfl, hC9, hC10, hB⟩
def PM (z : S38) : MdD := planM z.f0 z.f1 z.f2 z.f3 z.f4
/-- What may be asked of a plan: its texts are no longer than memory. -/
def okP (z : S38) : Prop := (∀ x ∈ z.f1, x.f0.size ≤ 9223372036854775807 ∧ x.f4.size ≤ 9223372036854775807) ∧ ∀ x ∈ z.f2, x.f0.size ≤ 9223372036854775807
def MDv (z : S38) (w : World) (v : Value) : Prop := ∃ A9 c9 A10 c10, v = .agg #[.bool (flagB z.f0 2), .bool (flagB z.f0 1), .int .u8 3, .int .u8 0, .int .u64 1, .int .u64 243, .int .u64 16, .int .u64 5, .int .u64 1, .slice A9 (madeSecs z.f0 z.f1 z.f2 z.f3).length c9, .slice A10 (segsR z.f4).length c10] ∧ Kd.C k54 w A9 (madeSecs z.f0 z.f1 z.f2 z.f3).length (madeSecs z.f0 z.f1 z.f2 z.f3) ∧ Kd.C k76 w A10 (segsR z.f4).length (segsR z.f4)
def TDv (z : S38) (w : World) (v : Value) : Prop := ∃ B9 d9 B10 d10, v = .agg #[.bool (flagB z.f0 1), .bool (flagB z.f0 2), .int .u8 3, .int .u8 0, .string ⟨#[]⟩, .int .u64 1, .int .u64 243, .int .u64 16, .int .u64 5, .int .u64 1, .slice B9 (PM z).L.length d9, .slice B10 (PM z).D.length d10] ∧ Kd.R k80 80 w 0 (fun _ => True) (.slice B9 (PM z).L.length d9) (PM z).L ∧ Kd.R k83 83 w 0 (fun _ => True) (.slice B10 (PM z).D.length d10) (PM z).D
theorem MDv.below {z : S38} {w w1 : World} {v : Value} (h : MDv z w v) (hb : Below w.heap.size w w1) : MDv z w1 v := by
  obtain ⟨A9, c9, A10, c10, e, h1, h2⟩ := h
  exact ⟨A9, c9, A10, c10, e, Kd.C_below h1 hb, Kd.C_below h2 hb⟩
theorem TDv.below {z : S38} {w w1 : World} {v : Value} (h : TDv z w v) (hb : Below w.heap.size w w1) : TDv z w1 v := by
  obtain ⟨A9, c9, A10, c10, e, h1, h2⟩ := h
  exact ⟨A9, c9, A10, c10, e, Kd.R_below h1 hb, Kd.R_below h2 hb⟩
theorem made_z (z : S38) (hz : okP z) (a01 a02 a03 a04 : Option Addr) (c01 c02 c03 c04 : Nat) (w : World) (h1 : Kd.C k60 w a01 z.f1.length z.f1) (h2 : Kd.C k62 w a02 z.f2.length z.f2) (h3 : Kd.C k72 w a03 z.f3.length z.f3) (h4 : Kd.C Kd.string w a04 z.f4.length z.f4) :
    Calls Tryz.prog 5 #[.agg #[.int .i64 z.f0, .slice a01 z.f1.length c01, .slice a02 z.f2.length c02, .slice a03 z.f3.length c03, .slice a04 z.f4.length c04]] w fun e w' => ∃ v, e = .returned v ∧ MDv z w' v ∧ Below w.heap.size w w' := by
  refine (made_any z.f0 z.f1 z.f2 z.f3 z.f4 hz.1 hz.2 a01 a02 a03 a04 c01 c02 c03 c04 w h1 h2 h3 h4).mono ?_
  rintro e w' ⟨v9, v10, rfl, hR, hD, hB⟩
  obtain ⟨A9, c9, rfl, _, hC9⟩ := Kd.R_reads hR
  obtain ⟨A10, c10, rfl, _, hC10⟩ := Kd.R_reads hD
  exact ⟨_, rfl, ⟨A9, c9, A10, c10, rfl, hC9, hC10⟩, hB⟩
theorem told_z (z : S38) (v : Value) (w : World) (h : MDv z w v) : Calls Tryz.prog 6 #[v] w fun e w' => ∃ u, e = .returned u ∧ TDv z w' u ∧ Below w.heap.size w w' := by
  obtain ⟨A9, c9, A10, c10, rfl, h1, h2⟩ := h
  have hl := madeSecs_len z.f0 z.f1 z.f2 z.f3
  have hs := segsR_le z.f4
  refine (told_any (flagB z.f0 2) (flagB z.f0 1) 3 0 1 243 16 5 1 (madeSecs z.f0 z.f1 z.f2 z.f3) (segsR z.f4) (by omega) (by omega) (fun x hx => by have := madeSecs_in z.f0 z.f1 z.f2 z.f3 x hx; omega) A9 A10 c9 c10 w h1 h2).mono ?_
  rintro e w' ⟨v9, v10, rfl, hR, hD, hB⟩
  obtain ⟨B9, d9, rfl⟩ := Kd.R_slice hR
  obtain ⟨B10, d10, rfl⟩ := Kd.R_slice hD
  exact ⟨_, rfl, ⟨B9, d9, B10, d10, rfl, Kd.R_lower hR (Nat.zero_le _), Kd.R_lower hD (Nat.zero_le _)⟩, hB⟩
end Go.Proofs.YtkbamfiokhmpjaaGreatDoor

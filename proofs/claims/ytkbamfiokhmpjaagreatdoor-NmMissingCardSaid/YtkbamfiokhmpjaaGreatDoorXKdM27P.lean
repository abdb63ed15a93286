/- Plans' models: their symbols, in plain words. -/
import Derived.Test.YtkbamfiokhmpjaaGreatDoorXKdM27V
namespace Go.Proofs.YtkbamfiokhmpjaaGreatDoor
set_option linter.unusedVariables false
set_option linter.unusedSimpArgs false
open Go.RowKit Go.Proofs.YtkbamfiokhmpjaaGreatDoorX.Kd Go.Proofs.YtkbamfiokhmpjaaGreatDoorW.PrintWords Go.Proofs.YtkbamfiokhmpjaaGreatDoorW.PrintLast Go.Proofs.YtkbamfiokhmpjaaGreatDoorW.PrintMore

def symsD (c : S54) : List S56 := if c.f1 = 2 then c.f10.drop 1 else []
def allD (L : List S54) : List S56 := L.flatMap symsD
theorem symsL_secT (L : List S54) : symsL (L.map secT) = (allD L).map symT := by
  unfold symsL allD
  rw [List.flatMap_map, List.map_flatMap]
  congr 1
  funext c
  unfold symsC symsD secT
  simp only
  split
  · rw [List.map_drop]
  · rfl
theorem allD_append (A B : List S54) : allD (A ++ B) = allD A ++ allD B := by unfold allD; rw [List.flatMap_append]
theorem kindL_ne (i : Nat) : kindL.getD i 0 ≠ 2 := by
  unfold kindL
  match i with
  | 0 => decide
  | 1 => decide
  | 2 => decide
  | 3 => decide
  | 4 => decide
  | 5 => decide
  | n + 6 => simp [List.getD]
theorem allD_sections (ps : List S60) : allD (sectionsR ps) = [] := by
  unfold sectionsR
  rw [allD_append]
  have h1 : allD [z54, nameS] = [] := rfl
  rw [h1, List.nil_append]
  unfold allD
  refine List.flatMap_eq_nil_iff.2 (fun c hc => ?_)
  obtain ⟨x, _, rfl⟩ := List.mem_map.1 hc
  unfold symsD
  rw [if_neg (show ¬ (secR x).f1 = 2 from kindL_ne _)]
/-- A plan's own symbols, the zero one apart. -/
theorem allD_made (fl : Int) (ps : List S60) (ys : List S62) (rs : List S72) : allD (madeSecs fl ps ys rs) = if 0 < ys.length then (symbolsR ys ((sectionsR ps).length : Int)).drop 1 else [] := by
  unfold madeSecs
  rw [allD_append, allD_sections, List.nil_append]
  by_cases h : 0 < ys.length
  · rw [if_pos h, if_pos h]
    unfold moreSecs
    dsimp only
    rw [allD_append, allD_append, allD_append, allD_append]
    have e1 : allD (if (bits .and .i64 fl 4 == 0) = true then [strtabS] else []) = [] := by split <;> rfl
    have e2 : ∀ b rl t (z1 z2 : Int) (n : Int), allD (if 0 < rs.length then [relS b t rl z1 z2 n rs] else []) = [] := by
      intro b rl t z1 z2 n
      split
      · unfold allD symsD relS
        cases b <;> rfl
      · rfl
    have e3 : ∀ t n g, allD (if flagB fl 16 = true then [groupS t n g] else []) = [] := by
      intro t n g
      split <;> rfl
    have e4 : ∀ t, allD (if flagB fl 32 = true then [indicesS t] else []) = [] := by
      intro t
      split <;> rfl
    rw [e1, e2, e3, e4, List.nil_append, List.append_nil, List.append_nil, List.append_nil]
    show [symtabS _ _ _ _].flatMap symsD = _
    rw [List.flatMap_singleton]
    rfl
  · rw [if_neg h, if_neg h]; rfl
theorem allD_len (fl : Int) (ps : List S60) (ys : List S62) (rs : List S72) : (allD (madeSecs fl ps ys rs)).length ≤ 16 := by
  rw [allD_made]
  split
  · rw [List.length_drop]
    have := symbolsR_len ys ((sectionsR ps).length : Int)
    omega
  · simp
/-- What a plan's symbols' numbers are. -/
def okY (s : S56) : Prop := (0 ≤ s.f1 ∧ s.f1 < 256) ∧ (0 ≤ s.f3 ∧ s.f3 < 65536) ∧ (0 ≤ s.f4 ∧ s.f4 < 18446744073709551616) ∧ 0 ≤ s.f5
theorem i64_and7 (n : Int) : bits .and .i64 n 7 = n % 8 := by
  have hm : (BitVec.ofInt 64 7).toNat = 2 ^ 3 - 1 := by decide
  have key : (BitVec.ofInt 64 n &&& BitVec.ofInt 64 7).toNat = (n % ((2 ^ 64 : Nat) : Int)).toNat % 2 ^ 3 := by
    rw [BitVec.toNat_and, BitVec.toNat_ofInt, hm, Nat.and_two_pow_sub_one_eq_mod]
  show IntKind.i64.wrap ((BitVec.ofInt 64 n &&& BitVec.ofInt 64 7).toNat : Nat) = n % 8
  rw [key, IntKind.wrap_i64]
  omega
theorem i64_and1 (n : Int) : bits .and .i64 n 1 = n % 2 := by
  have hm : (BitVec.ofInt 64 1).toNat = 2 ^ 1 - 1 := by decide
  have key : (BitVec.ofInt 64 n &&& BitVec.ofInt 64 1).toNat = (n % ((2 ^ 64 : Nat) : Int)).toNat % 2 ^ 1 := by
    rw [BitVec.toNat_and, BitVec.toNat_ofInt, hm, Nat.and_two_pow_sub_one_eq_mod]
  show IntKind.i64.wrap ((BitVec.ofInt 64 n &&& BitVec.ofInt 64 1).toNat : Nat) = n % 2
  rw [key, IntKind.wrap_i64]
  omega
theorem i64_and65535 (n : Int) : bits .and .i64 n 65535 = n % 65536 := by
  have hm : (BitVec.ofInt 64 65535).toNat = 2 ^ 16 - 1 := by decide
  have key : (BitVec.ofInt 64 n &&& BitVec.ofInt 64 65535).toNat = (n % ((2 ^ 64 : Nat) : Int)).toNat % 2 ^ 16 := by
    rw [BitVec.toNat_and, BitVec.toNat_ofInt, hm, Nat.and_two_pow_sub_one_eq_mod]
  show IntKind.i64.wrap ((BitVec.ofInt 64 n &&& BitVec.ofInt 64 65535).toNat : Nat) = n % 65536
  rw [key, IntKind.wrap_i64]
  omega
theorem u64_wrap (x : Int) : 0 ≤ IntKind.u64.wrap x ∧ IntKind.u64.wrap x < 18446744073709551616 := by rw [IntKind.wrap_u64]; omega
theorem symR_ok (b : Nat) (n : Nat) (x : S62) : okY (symR b n x) := by
  refine ⟨?_, ?_, u64_wrap _, ?_⟩
  · show 0 ≤ (if b = 1 then IntKind.u64.wrap (IntKind.u64.wrap (bits .and .i64 (x.f1 / 2) 7) + IntKind.u64.wrap (16 * IntKind.u64.wrap (wrap64 (1 + bits .and .i64 (x.f1 / 64) 1)))) else IntKind.u64.wrap (bits .and .i64 (x.f1 / 2) 7)) ∧ (if b = 1 then IntKind.u64.wrap (IntKind.u64.wrap (bits .and .i64 (x.f1 / 2) 7) + IntKind.u64.wrap (16 * IntKind.u64.wrap (wrap64 (1 + bits .and .i64 (x.f1 / 64) 1)))) else IntKind.u64.wrap (bits .and .i64 (x.f1 / 2) 7)) < 256
    rw [i64_and7, i64_and1]
    have hw : wrap64 (1 + x.f1 / 64 % 2) = 1 + x.f1 / 64 % 2 := by unfold wrap64; omega
    rw [hw]
    simp only [IntKind.wrap_u64]
    split <;> omega
  · show 0 ≤ IntKind.u64.wrap (bits .and .i64 x.f3 65535) ∧ IntKind.u64.wrap (bits .and .i64 x.f3 65535) < 65536
    rw [i64_and65535, IntKind.wrap_u64]; omega
  · show 0 ≤ (if bits .and .i64 x.f2 256 = 256 then (65521 : Int) else Int.tmod (IntKind.u64.wrap (bits .and .i64 x.f2 255)) n)
    split
    · omega
    · exact Int.tmod_nonneg _ (u64_wrap _).1
theorem symbolsR_ok (ys : List S62) (n : Nat) : ∀ s ∈ symbolsR ys n, okY s := by
  intro s hs
  unfold symbolsR at hs
  rcases List.mem_append.1 hs with hs | hs
  · rcases List.mem_append.1 hs with hs | hs
    · rw [List.mem_singleton] at hs
      subst hs
      exact ⟨⟨by decide, by decide⟩, ⟨by decide, by decide⟩, ⟨by decide, by decide⟩, by decide⟩
    · unfold symsK at hs
      obtain ⟨x, _, rfl⟩ := List.mem_map.1 hs
      exact symR_ok _ _ _
  · unfold symsK at hs
    obtain ⟨x, _, rfl⟩ := List.mem_map.1 hs
    exact symR_ok _ _ _
/-- A section of a plan's model: its flags, its symbols. -/
theorem made_ok (fl : Int) (ps : List S60) (ys : List S62) (rs : List S72) : ∀ c ∈ madeSecs fl ps ys rs, (0 ≤ c.f2 ∧ c.f2 < 18446744073709551616) ∧ ∀ s ∈ c.f10, okY s := by
  have hz : ∀ x : S54, x.f2 = 0 → x.f10 = [] → (0 ≤ x.f2 ∧ x.f2 < 18446744073709551616) ∧ ∀ s ∈ x.f10, okY s := fun x h1 h2 => by
    rw [h1, h2]; exact ⟨⟨by decide, by decide⟩, fun s hs => by cases hs⟩
  intro x hx
  unfold madeSecs at hx
  rcases List.mem_append.1 hx with hx | hx
  · unfold sectionsR at hx
    rcases List.mem_append.1 hx with hx | hx
    · simp only [List.mem_cons, List.not_mem_nil, or_false] at hx
      rcases hx with rfl | rfl <;> exact hz _ rfl rfl
    · obtain ⟨y, _, rfl⟩ := List.mem_map.1 hx
      exact ⟨u64_wrap _, fun s hs => by cases hs⟩
  · split at hx
    · unfold moreSecs at hx
      dsimp only at hx
      rcases List.mem_append.1 hx with hx | hx
      · rcases List.mem_append.1 hx with hx | hx
        · rcases List.mem_append.1 hx with hx | hx
          · rcases List.mem_append.1 hx with hx | hx
            · split at hx
              · simp only [List.mem_cons, List.not_mem_nil, or_false] at hx; subst hx; exact hz _ rfl rfl
              · cases hx
            · simp only [List.mem_cons, List.not_mem_nil, or_false] at hx; subst hx
              exact ⟨⟨Int.le_refl 0, by show (0 : Int) < _; decide⟩, symbolsR_ok _ _⟩
          · split at hx
            · simp only [List.mem_cons, List.not_mem_nil, or_false] at hx; subst hx; exact hz _ rfl rfl
            · cases hx
        · split at hx
          · simp only [List.mem_cons, List.not_mem_nil, or_false] at hx; subst hx; exact hz _ rfl rfl
          · cases hx
      · split at hx
        · simp only [List.mem_cons, List.not_mem_nil, or_false] at hx; subst hx; exact hz _ rfl rfl
        · cases hx
    · cases hx
theorem plan_ok (z : S38) : ∀ c ∈ (PM z).L, ∀ s ∈ c.f10, 0 ≤ s.f5 ∧ (0 ≤ s.f3 ∧ s.f3 < 65536) := by
  intro c hc s hs
  obtain ⟨x, hx, rfl⟩ := List.mem_map.1 hc
  obtain ⟨y, hy, rfl⟩ := List.mem_map.1 (show s ∈ x.f10.map symT from hs)
  have h := (made_ok _ _ _ _ x hx).2 y hy
  exact ⟨h.2.2.2, h.2.1⟩
theorem plan_syms (z : S38) : (symsL (PM z).L).length < 20 := by
  show (symsL ((madeSecs z.f0 z.f1 z.f2 z.f3).map secT)).length < 20
  rw [symsL_secT, List.length_map]
  have := allD_len z.f0 z.f1 z.f2 z.f3
  omega
theorem letter_t (z : S38) (s : S81) (h5 : 0 ≤ s.f5) (u : Value) (w : World) (h : TDv z w u) :
    Calls Tryz.prog 32 #[u, .agg #[.string s.f0, .int .u64 s.f1, .int .u64 s.f2, .int .u64 s.f3, .int .u64 s.f4, .int .u64 s.f5, .bool s.f6]] w fun e w' => e = .returned (.string (letB (PM z).L s)) ∧ Below w.heap.size w w' := by
  obtain ⟨B9, d9, B10, d10, rfl, h9, h10⟩ := h
  obtain ⟨A9, c9, e9, l9, g9⟩ := Kd.R_reads h9
  obtain ⟨A10, c10, e10, l10, g10⟩ := Kd.R_reads h10
  injection e9 with i1 i2 i3
  injection e10 with j1 j2 j3
  subst i1 i3 j1 j3
  exact letter_any (PM z) (Nat.le_trans (planM_L _ _ _ _ _) (by decide)) _ _ _ _ l9 l10 s h5 w g9 g10
theorem rows_t (z : S38) (d x y : Bool) (u : Value) (w : World) (h : TDv z w u) :
    Calls Tryz.prog 21 #[u, .agg #[.bool d, .bool x, .bool y]] w fun e w' => ∃ v, e = .returned v ∧ Kd.R k95 95 w' w.heap.size (fun _ => True) v (sortRows (rowsS (PM z).L d x y (symsL (PM z).L))) ∧ Below w.heap.size w w' := by
  obtain ⟨B9, d9, B10, d10, rfl, h9, h10⟩ := h
  obtain ⟨A9, c9, e9, l9, g9⟩ := Kd.R_reads h9
  obtain ⟨A10, c10, e10, l10, g10⟩ := Kd.R_reads h10
  injection e9 with i1 i2 i3
  injection e10 with j1 j2 j3
  subst i1 i3 j1 j3
  exact rows_any (PM z) (Nat.le_trans (planM_L _ _ _ _ _) (by decide)) (plan_syms z) _ _ _ _ l9 l10 d x y (fun c hc => ⟨Nat.le_trans (planM_in _ _ _ _ _ c hc).1 (by decide), fun s hs => (plan_ok z c hc s hs).1⟩) w g9 g10
theorem view_t (z : S38) (d x y : Bool) (u : Value) (w : World) (h : TDv z w u) (ht : Tabs w) :
    Calls Tryz.prog 9 #[u, .agg #[.bool d, .bool x, .bool y]] w fun e w' => ∃ v, e = .returned v ∧ Kd.R kStrs 36 w' w.heap.size (fun _ => True) v (viewR (PM z) d x y) ∧ Below w.heap.size w w' := by
  obtain ⟨B9, d9, B10, d10, rfl, h9, h10⟩ := h
  obtain ⟨A9, c9, e9, l9, g9⟩ := Kd.R_reads h9
  obtain ⟨A10, c10, e10, l10, g10⟩ := Kd.R_reads h10
  injection e9 with i1 i2 i3
  injection e10 with j1 j2 j3
  subst i1 i3 j1 j3
  exact view_any (PM z) (Nat.le_trans (planM_L _ _ _ _ _) (by decide)) (plan_syms z) _ _ _ _ l9 l10 d x y (fun c hc => ⟨Nat.le_trans (planM_in _ _ _ _ _ c hc).1 (by decide), fun s hs => (plan_ok z c hc s hs).1⟩) (fun c hc s hs => ⟨(plan_ok z c hc s hs).2.1, Int.lt_trans (plan_ok z c hc s hs).2.2 (by decide)⟩) w g9 g10 ht
end Go.Proofs.YtkbamfiokhmpjaaGreatDoor

/- speaks: a symbol's letter. -/
namespace Go.Proofs.YtkbamfiokhmpjaaGreatDoor
set_option linter.unusedVariables false
set_option linter.unusedSimpArgs false
open Go.RowKit Go.Proofs.YtkbamfiokhmpjaaGreatDoorX.Kd Go.Proofs.YtkbamfiokhmpjaaGreatDoorW.PrintWords Go.Proofs.YtkbamfiokhmpjaaGreatDoorW.PrintLast Go.Proofs.YtkbamfiokhmpjaaGreatDoorW.PrintMore

def pS : S60 := ⟨⟨#[97]⟩, 0, 0, 6, ⟨#[97, 98, 99]⟩⟩
def pY : S62 := ⟨⟨#[115]⟩, 1, 2, 7⟩
def z0 : S38 := ⟨0, [pS], [pY], [], []⟩
theorem z0_rows : rowsS (PM z0).L false false false (symsL (PM z0).L) = [⟨7, 7, ⟨#[84]⟩, ⟨#[115]⟩, 0⟩] := by kernel_rfl
theorem z0_view : viewR (PM z0) false false false = [[⟨#[48, 48, 48, 48, 48, 48, 48, 55]⟩, ⟨#[84]⟩, ⟨#[115]⟩]] := by
  have h := (rows_perm (PM z0).L false false false (symsL (PM z0).L)).1
  unfold viewR
  rw [z0_rows] at h ⊢
  rw [List.perm_singleton.1 h]
  have hv : valR (PM z0).wide ⟨7, 7, ⟨#[84]⟩, ⟨#[115]⟩, 0⟩ = ⟨#[48, 48, 48, 48, 48, 48, 48, 55]⟩ := by
    unfold valR
    rw [if_neg (by rw [show undB (⟨#[84]⟩ : ByteArray) = false from by kernel_rfl]; decide)]
    have e : bdig 16 (7 : Int).toNat = [55] := by
      rw [show (7 : Int).toNat = 7 from rfl, bdig_small (by decide)]; rfl
    unfold hexR
    rw [e]
    rfl
  show [viewRow _ _] = _
  unfold viewRow
  rw [hv]
theorem okP_z0 : okP z0 := ⟨fun x hx => by simp [z0] at hx; subst hx; exact ⟨by decide, by decide⟩, fun x hx => by simp [z0] at hx; subst hx; decide⟩
theorem at_Strs {w : World} {A : Option Addr} {n : Nat} {L : List (List ByteArray)} (h : Kd.C kStrs w A n L) (k : Nat) (h1 : k < L.length) (hn : k < n) : ∃ ad A0 c0, A = some ad ∧ w.cell? (ad.add k) = some (.slice A0 L[k].length c0) ∧ L[k].length ≤ c0 ∧ Kd.string.C w A0 L[k].length L[k] := by
  obtain ⟨ad, c, e, _, hK, hc0⟩ := Kd.C_get h ([] : List ByteArray) (k : Int) (by omega) (by omega)
  rw [Int.toNat_natCast] at hc0 hK
  have hd : L.getD k [] = L[k] := by simp [List.getD, h1]
  rw [hd] at hK
  have hc : ∀ j u, c[j]? = some u → w.cell? (ad.add (k * 1 + j)) = some u := hc0
  obtain ⟨A0, c0, rfl, l0, g0⟩ := hK
  exact ⟨ad, A0, c0, e, by have hq := hc 0 _ rfl; rwa [Nat.mul_one, Nat.add_zero] at hq, l0, g0⟩
theorem at_Str {w : World} {A : Option Addr} {n : Nat} {l : List ByteArray} (h : Kd.string.C w A n l) (k : Nat) (h1 : k < l.length) (hn : k < n) : ∃ ad, A = some ad ∧ w.cell? (ad.add k) = some (.string l[k]) := by
  obtain ⟨ad, c, e, _, hK, hc0⟩ := Kd.C_get h (default : ByteArray) (k : Int) (by omega) (by omega)
  rw [Int.toNat_natCast] at hc0 hK
  have hd : l.getD k default = l[k] := by simp [List.getD, h1]
  rw [hd] at hK
  have hc : ∀ j u, c[j]? = some u → w.cell? (ad.add (k * 1 + j)) = some u := hc0
  obtain rfl : c = [.string l[k]] := hK
  exact ⟨ad, e, by have hq := hc 0 _ rfl; rwa [Nat.mul_one, Nat.add_zero] at hq⟩
set_option maxRecDepth 100000 in
set_option maxHeartbeats 16000000 in
theorem speaks_any (w : World) (ht : Tabs w) : Calls Tryz.prog 4 #[] w fun e w' => e = .returned (.bool true) ∧ Below w.heap.size w w' := by
  have hP : Kd.C k60 ((w.alloc (.cells #[.string ⟨#[97]⟩, .int .i64 0, .int .i64 0, .int .i64 6, .string ⟨#[97, 98, 99]⟩] 60)).alloc (.cells #[.string ⟨#[115]⟩, .int .i64 1, .int .i64 2, .int .i64 7] 62)) (some ⟨w.heap.size, 0, none⟩) [pS].length [pS] := by
    have hb := blk_alloc (blk_new w (.cells #[.string ⟨#[97]⟩, .int .i64 0, .int .i64 0, .int .i64 6, .string ⟨#[97, 98, 99]⟩] 60)) (.cells #[.string ⟨#[115]⟩, .int .i64 1, .int .i64 2, .int .i64 7] 62)
    refine ⟨rfl, by simp, fun _ => ⟨⟨w.heap.size, 0, none⟩, rfl, fun j x hj => ?_⟩⟩
    match j, hj with
    | 0, hj => cases hj; exact ⟨_, rfl, k60_mk _ pS, fun i u hu => by
        match i, hu with
        | 0, hu => cases hu; exact blk_cell hb 0
        | 1, hu => cases hu; exact blk_cell hb 1
        | 2, hu => cases hu; exact blk_cell hb 2
        | 3, hu => cases hu; exact blk_cell hb 3
        | 4, hu => cases hu; exact blk_cell hb 4⟩
  have hY : Kd.C k62 ((w.alloc (.cells #[.string ⟨#[97]⟩, .int .i64 0, .int .i64 0, .int .i64 6, .string ⟨#[97, 98, 99]⟩] 60)).alloc (.cells #[.string ⟨#[115]⟩, .int .i64 1, .int .i64 2, .int .i64 7] 62)) (some ⟨w.heap.size + 1, 0, none⟩) [pY].length [pY] := by
    have hb := blk_new (w.alloc (.cells #[.string ⟨#[97]⟩, .int .i64 0, .int .i64 0, .int .i64 6, .string ⟨#[97, 98, 99]⟩] 60)) (.cells #[.string ⟨#[115]⟩, .int .i64 1, .int .i64 2, .int .i64 7] 62)
    rw [World.size_alloc] at hb
    refine ⟨rfl, by simp, fun _ => ⟨⟨w.heap.size + 1, 0, none⟩, rfl, fun j x hj => ?_⟩⟩
    match j, hj with
    | 0, hj => cases hj; exact ⟨_, rfl, k62_mk _ pY, fun i u hu => by
        match i, hu with
        | 0, hu => cases hu; exact blk_cell hb 0
        | 1, hu => cases hu; exact blk_cell hb 1
        | 2, hu => cases hu; exact blk_cell hb 2
        | 3, hu => cases hu; exact blk_cell hb 3⟩
  have HP := Lib.hid hP
  have HY := Lib.hid hY
  have HT := Lib.hid ht
  clear hP hY ht
  go_enter Tryz.func4, Tryz.ntmps4
  go_upto_region 2 with (first
    | (go_at_call 5; refine (made_z z0 okP_z0 (some ⟨w.heap.size, 0, none⟩) (some ⟨w.heap.size + 1, 0, none⟩) none none 1 1 0 0 _ HP.out HY.out (Kd.C_nil _ _) (Kd.C_nil _ _)).mono ?_; rintro e w1 ⟨v1, rfl, hM, hB⟩; have HM := Lib.hid hM; have HB1 := Lib.hid (show Below w.heap.size w w1 from (below_alloc (below_alloc (Below.refl w.heap.size w) _) _).trans (hB.mono (by simp; omega))); clear hM hB)
    | (go_at_call 6; refine (told_z z0 v1 _ HM.out).mono ?_; rintro e w2 ⟨u2, rfl, hT2, hB2⟩; obtain ⟨B9, d9, B10, d10, rfl, h9, h10⟩ := hT2; have HT2 := Lib.hid (show TDv z0 w2 _ from ⟨B9, d9, B10, d10, rfl, h9, h10⟩); have HB2 := Lib.hid (HB1.out.trans (hB2.mono HB1.out.size)); clear h9 h10 hB2))
  go_upto_region 3 with (first
    | (go_at_call 9; refine (view_t z0 false false false _ _ (HT2.out.below (below_alloc (Below.refl _ _) _)) ((HT.out.below HB2.out).below (below_alloc (Below.refl _ _) _))).mono ?_; rintro e w3 ⟨v3, rfl, hR, hB⟩; have HR := Lib.hid hR; have HB3 := Lib.hid (show Below w.heap.size w w3 from (below_alloc HB2.out _).trans (hB.mono (below_alloc HB2.out _).size)); clear hR hB))
  have hR := HR.out
  rw [z0_view] at hR
  obtain ⟨A3, c3, rfl, l3, hC⟩ := Kd.R_reads hR
  obtain ⟨ad, A0, c0, hA3, hc, l0, hS⟩ := at_Strs hC 0 (by decide) (by decide)
  subst hA3
  obtain ⟨a0, hA0, h0⟩ := at_Str hS 0 (by decide) (by decide)
  subst hA0
  obtain ⟨a1, hA1, h1⟩ := at_Str hS 1 (by decide) (by decide)
  injection hA1 with hA1
  subst hA1
  obtain ⟨a2, hA2, h2⟩ := at_Str hS 2 (by decide) (by decide)
  injection hA2 with hA2
  subst hA2
  have hc' : w3.cell? ad = some (.slice (some a0) 3 c0) := hc
  have h0' : w3.cell? a0 = some (.string ⟨#[48, 48, 48, 48, 48, 48, 48, 55]⟩) := h0
  have h1' : w3.cell? ⟨a0.block, a0.off + 1, none⟩ = some (.string ⟨#[84]⟩) := h1
  have h2' : w3.cell? ⟨a0.block, a0.off + 2, none⟩ = some (.string ⟨#[115]⟩) := h2
  clear hc h0 h1 h2 hS hC l0 l3 hR HR
  go_wp2
  go_ret
  exact ⟨rfl, HB3.out⟩
end Go.Proofs.YtkbamfiokhmpjaaGreatDoor

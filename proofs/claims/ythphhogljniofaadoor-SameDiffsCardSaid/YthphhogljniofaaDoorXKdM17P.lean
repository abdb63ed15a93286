/- Contracts over this translation, two models: Models; laws on Diff's answer; speaks. -/
import Derived.Test.YthphhogljniofaaDoorXKdM17N
import Derived.Test.YthphhogljniofaaDoorXKdM17L
import Derived.Test.YthphhogljniofaaDoorXKdM17G
namespace Go.Proofs.YthphhogljniofaaDoor
set_option linter.unusedVariables false
set_option linter.unusedSimpArgs false
open Go.RowKit Go.Proofs.YthphhogljniofaaDoorX.Kd Go.Proofs.YthphhogljniofaaDoorW.PrintWords Go.Proofs.YthphhogljniofaaDoorW.PrintLast Go.Proofs.YthphhogljniofaaDoorW.PrintMore

theorem ba_empty (d : ByteArray) : (d.toList == ([] : List UInt8)) = eqC d ⟨#[]⟩ := by
  by_cases h : d = ⟨#[]⟩
  · rw [eqC_true h]; exact beq_iff_eq.2 (ba_niL.2 h)
  · rw [eqC_false h]; exact beq_eq_false_iff_ne.2 (fun h2 => h (ba_niL.1 h2))
theorem ba_isEmpty (d : ByteArray) : d.toList.isEmpty = eqC d ⟨#[]⟩ := by
  rw [← ba_empty]
  cases d.toList <;> rfl
set_option maxRecDepth 100000 in
set_option maxHeartbeats 16000000 in
theorem models_any (a b : MdD) (ha : a.L.length ≤ 16) (hd : a.D.length ≤ 16) (A9 A10 B9 B10 : Option Addr) (c9 c10 d9 d10 : Nat) (w : World) (hA9 : Kd.C k58 w A9 a.L.length a.L) (hA10 : Kd.C k65 w A10 a.D.length a.D) (hB9 : Kd.C k58 w B9 b.L.length b.L) (hB10 : Kd.C k65 w B10 b.D.length b.D) :
    Calls Tryd.prog 10 #[.agg #[.bool a.big, .bool a.wide, .int .u8 a.abi, .int .u8 a.ver, .string a.pad, .int .u64 a.ty, .int .u64 a.mc, .int .u64 a.en, .int .u64 a.fg, .int .u64 a.nm, .slice A9 a.L.length c9, .slice A10 a.D.length c10], .agg #[.bool b.big, .bool b.wide, .int .u8 b.abi, .int .u8 b.ver, .string b.pad, .int .u64 b.ty, .int .u64 b.mc, .int .u64 b.en, .int .u64 b.fg, .int .u64 b.nm, .slice B9 b.L.length d9, .slice B10 b.D.length d10]] w fun e w' => e = .returned (.bool (eqC (diffR a b) ⟨#[]⟩)) ∧ Below w.heap.size w w' := by
  have HF := Lib.hid (fun W (hb : Below w.heap.size w W) => diff_any a b ha hd A9 A10 B9 B10 c9 c10 d9 d10 W (Kd.C_below hA9 hb) (Kd.C_below hA10 hb) (Kd.C_below hB9 hb) (Kd.C_below hB10 hb))
  clear hA9 hA10 hB9 hB10
  obtain ⟨d, hd1⟩ : ∃ d, d = diffR a b := ⟨_, rfl⟩
  rw [← hd1] at HF ⊢
  clear hd1
  go_enter Tryd.func10, Tryd.ntmps10
  go_wp2_with (first | (go_at_call 12; refine (HF.out _ (below_alloc (below_alloc (Below.refl _ _) _) _)).mono ?_; rintro e w1 ⟨rfl, hb1⟩; have HB := Lib.hid ((below_alloc (below_alloc (Below.refl w.heap.size w) _) _ : Below w.heap.size w _).trans (hb1.mono (by simp; omega))); clear hb1))
  go_ret
  exact ⟨by first | (rw [← ba_empty]; rfl) | (rw [← ba_isEmpty]; rfl), HB.out⟩
/-! ### laws on Diff's answer -/
theorem headsR_comm (x y : S58) : headsR x y = headsR y x := by unfold headsR; exact eqC_comm _ _
theorem whereR_comm (x y : S58) : whereR x y = whereR y x := by
  unfold whereR
  rw [headsR_comm x y, eqC_comm x.f0, eqC_comm x.f9, eqC_comm x.f10, eqC_comm x.f11, eqC_comm x.f12]
theorem whereR_nil {x y : S58} : whereR x y = ⟨#[]⟩ ↔ x = y := by
  constructor
  · intro h
    unfold whereR firstR at h
    split at h
    · rename_i h1
      unfold firstR at h
      split at h
      · rename_i h2
        unfold firstR at h
        split at h
        · rename_i h3
          unfold firstR at h
          split at h
          · rename_i h4
            unfold firstR at h
            split at h
            · rename_i h5
              unfold firstR at h
              split at h
              · rename_i h6
                simp only [eqC_iff, headsR, Prod.mk.injEq] at h1 h2 h3 h4 h5 h6
                cases x; cases y
                simp only at h1 h2 h3 h4 h5 h6
                obtain ⟨r1, r2, r3, r4, r5, r6, r7, r8⟩ := h2
                subst h1; subst h3; subst h4; subst h5; subst h6; subst r1; subst r2; subst r3; subst r4; subst r5; subst r6; subst r7; subst r8
                rfl
              · cases h
            · cases h
          · cases h
        · cases h
      · cases h
    · cases h
  · intro h
    subst h
    unfold whereR headsR
    simp [firstR, eqC_true]
theorem secsR_comm : ∀ (i : Nat) (xs ys : List S58), secsR i xs ys = secsR i ys xs
  | i, [], [] => rfl
  | i, [], _ :: _ => by unfold secsR; rfl
  | i, _ :: _, [] => by unfold secsR; rfl
  | i, x :: xs, y :: ys => by
    unfold secsR
    rw [whereR_comm x y, secsR_comm (i + 1) xs ys]
theorem segsDR_comm : ∀ (i : Nat) (xs ys : List S65), segsDR i xs ys = segsDR i ys xs
  | i, [], [] => rfl
  | i, [], _ :: _ => by unfold segsDR; rfl
  | i, _ :: _, [] => by unfold segsDR; rfl
  | i, x :: xs, y :: ys => by
    unfold segsDR
    rw [eqC_comm x y, segsDR_comm (i + 1) xs ys]
theorem headR_comm (a b : MdD) : headR a b = headR b a := by
  unfold headR
  rw [Bool.beq_comm (a := a.big), Bool.beq_comm (a := a.wide), BEq.comm (a := a.abi), BEq.comm (a := a.ver), BEq.comm (a := a.ty), BEq.comm (a := a.mc), BEq.comm (a := a.en), BEq.comm (a := a.fg), BEq.comm (a := a.nm), BEq.comm (a := (a.L.length : Int))]
theorem diffR_comm (a b : MdD) : diffR a b = diffR b a := by
  unfold diffR
  rw [headR_comm a b, secsR_comm 0 a.L b.L, segsDR_comm 0 a.D b.D]
  by_cases h : a.D.length = b.D.length
  · rw [if_neg (c := a.D.length ≠ b.D.length) (fun h2 => h2 h), if_neg (c := b.D.length ≠ a.D.length) (fun h2 => h2 h.symm)]
  · rw [if_pos (c := a.D.length ≠ b.D.length) h, if_pos (c := b.D.length ≠ a.D.length) (Ne.symm h)]
theorem cat_ne (a b : ByteArray) (h : 0 < a.size) : a ++ b ≠ ⟨#[]⟩ := by
  intro h0
  have h1 := congrArg ByteArray.size h0
  rw [ByteArray.size_append] at h1
  have z0 : (⟨#[]⟩ : ByteArray).size = 0 := rfl
  omega
theorem secsR_eq : ∀ (i : Nat) (xs ys : List S58), xs.length = ys.length → (secsR i xs ys = ⟨#[]⟩ ↔ xs = ys)
  | i, [], [], _ => by simp [secsR]
  | i, [], _ :: _, h => by cases h
  | i, _ :: _, [], h => by cases h
  | i, x :: xs, y :: ys, h => by
    unfold secsR
    by_cases hw : whereR x y = ⟨#[]⟩
    · rw [if_pos hw, secsR_eq (i + 1) xs ys (by simpa using h), whereR_nil.1 hw]
      simp
    · rw [if_neg hw]
      constructor
      · intro h2
        exact absurd h2 (cat_ne _ _ (by rw [ByteArray.size_append, ByteArray.size_append]; exact Nat.lt_of_lt_of_le (by decide) (Nat.le_trans (Nat.le_add_right _ _) (Nat.le_add_right _ _))))
      · intro h2
        exact absurd (whereR_nil.2 (List.cons.inj h2).1) hw
theorem segsDR_eq : ∀ (i : Nat) (xs ys : List S65), xs.length = ys.length → (segsDR i xs ys = ⟨#[]⟩ ↔ xs = ys)
  | i, [], [], _ => by simp [segsDR]
  | i, [], _ :: _, h => by cases h
  | i, _ :: _, [], h => by cases h
  | i, x :: xs, y :: ys, h => by
    unfold segsDR
    by_cases hw : x = y
    · rw [if_pos (eqC_true hw), segsDR_eq (i + 1) xs ys (by simpa using h), hw]
      simp
    · rw [if_neg (fun h2 => hw (eqC_iff.1 h2))]
      constructor
      · intro h2
        exact absurd h2 (cat_ne _ _ (by decide))
      · intro h2
        exact absurd (List.cons.inj h2).1 hw
/-- Nothing parts two models. -/
def eqM (a b : MdD) : Prop := ((a.big = b.big ∧ a.wide = b.wide ∧ a.abi = b.abi ∧ a.ver = b.ver) ∧ (a.ty = b.ty ∧ a.mc = b.mc ∧ a.en = b.en ∧ a.fg = b.fg ∧ a.nm = b.nm)) ∧ a.L = b.L ∧ a.D = b.D
theorem diffR_nil {a b : MdD} : diffR a b = ⟨#[]⟩ ↔ eqM a b := by
  unfold diffR eqM
  by_cases h1 : headR a b = ⟨#[]⟩
  · have hn := headR_nil h1
    rw [if_neg (fun h => h h1)]
    by_cases h2 : secsR 0 a.L b.L = ⟨#[]⟩
    · have hL := (secsR_eq 0 a.L b.L hn.2.2).1 h2
      rw [if_neg (fun h => h h2)]
      by_cases h3 : a.D.length = b.D.length
      · rw [if_neg (fun h => h h3), segsDR_eq 0 a.D b.D h3]
        exact ⟨fun h => ⟨⟨hn.1, hn.2.1⟩, hL, h⟩, fun h => h.2.2⟩
      · rw [if_pos h3]
        exact ⟨fun h => (by cases h), fun h => absurd (by rw [h.2.2]) h3⟩
    · rw [if_pos h2]
      exact ⟨fun h => absurd h h2, fun h => absurd ((secsR_eq 0 a.L b.L hn.2.2).2 h.2.1) h2⟩
  · rw [if_pos h1]
    exact ⟨fun h => absurd h h1, fun h => absurd (headR_of h.1.1 h.1.2 (by rw [h.2.1])) h1⟩
theorem eqM_refl (a : MdD) : eqM a a := ⟨⟨⟨rfl, rfl, rfl, rfl⟩, rfl, rfl, rfl, rfl, rfl⟩, rfl, rfl⟩
theorem eqM_trans {a b c : MdD} (h : eqM a b) (h2 : eqM b c) : eqM a c := by
  obtain ⟨⟨⟨x1, x2, x3, x4⟩, x5, x6, x7, x8, x9⟩, x10, x11⟩ := h
  obtain ⟨⟨⟨y1, y2, y3, y4⟩, y5, y6, y7, y8, y9⟩, y10, y11⟩ := h2
  exact ⟨⟨⟨x1.trans y1, x2.trans y2, x3.trans y3, x4.trans y4⟩, x5.trans y5, x6.trans y6, x7.trans y7, x8.trans y8, x9.trans y9⟩, x10.trans y10, x11.trans y11⟩
end Go.Proofs.YthphhogljniofaaDoor

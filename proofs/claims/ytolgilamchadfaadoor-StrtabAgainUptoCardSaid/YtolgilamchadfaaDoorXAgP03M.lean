/- Plain laws: StrtabAgain comes to true; its walk. -/
import Derived.Test.YtolgilamchadfaaDoorXAgP03L
import Derived.Test.YtolgilamchadfaaDoorStrE
namespace Go.Proofs.YtolgilamchadfaaDoorX.Ag
set_option linter.unusedVariables false
set_option linter.unusedSimpArgs false
open Go.RowKit Go.Proofs.YtolgilamchadfaaDoor Go.Proofs.YtolgilamchadfaaDoorW.PrintWords Go.Proofs.YtolgilamchadfaaDoorW.PrintLast Go.Proofs.YtolgilamchadfaaDoorW.PrintMore

/-- One name more makes a table longer by that name at the most. -/
theorem more_most (l : List ByteArray) (m : ByteArray) : (tabT (l ++ [m])).length ≤ (tabT l).length + (m.size + 1) := by
  obtain ⟨K, h1, h2, h3⟩ := kept l
  obtain ⟨K', g1, g2, g3⟩ := kept (l ++ [m])
  rw [h3, g3, List.length_append, List.length_append, flat_len, flat_len]
  have hmap : (l ++ [m]).map (·.data.toList) = l.map (·.data.toList) ++ [m.data.toList] := by simp
  rw [hmap] at g2
  have hsub := sum_sub (fun s => s.length + 1) K' (m.data.toList :: K) g1 (fun s hs => by
    obtain ⟨a, b, c⟩ := (g2 s).1 hs
    rcases List.mem_append.1 b with h | h
    · exact List.mem_cons_of_mem _ ((h2 s).2 ⟨a, h, fun ⟨t, ht, h5, h6⟩ => c ⟨t, List.mem_append_left _ ht, h5, h6⟩⟩)
    · rw [List.mem_singleton.1 h]; exact List.mem_cons_self)
  rw [List.map_cons, List.sum_cons, ba_len] at hsub
  omega
def rightB (l : List UInt8) : Bool := l.isEmpty || (Lib.hasPrefix l [0] && Lib.hasSuffix l [0])
theorem right_f (t : ByteArray) (ht : t.size ≤ 4000000) : strtab_Right.f t = some (rightB t.data.toList) := by
  unfold strtab_Right.f rightB strings_HasPrefix.f strings_HasSuffix.f
  rw [Lib.toList_data]
  by_cases h : t.data.toList = []
  · rw [if_pos h, h]; rfl
  · rw [if_neg h, if_pos (by omega), show t.data.toList.isEmpty = false from Bool.eq_false_iff.2 (fun h2 => h (List.isEmpty_iff.1 h2))]
    cases Lib.hasPrefix t.data.toList [0] <;> simp
/-- what All tells of a table -/
def allL (X : ByteArray) : List ByteArray := Lib.splitB ⟨#[0]⟩ 0 (Lib.countB ⟨(Lib.trimSuffix X.data.toList [0]).toArray⟩ ⟨#[0]⟩) ⟨(Lib.trimSuffix X.data.toList [0]).toArray⟩
theorem trim_le (l p : List UInt8) : (Lib.trimSuffix l p).length ≤ l.length := by
  unfold Lib.trimSuffix; split
  · rw [List.length_take]; omega
  · exact Nat.le_refl _
theorem all_ev (X : ByteArray) (hX : X.size ≤ 4000) (h0 : X.data.toList ≠ []) (hr : rightB X.data.toList = true) : Ev (fun k => strtab_All.f k X) (allL X) := by
  have hR := right_f X (by omega)
  unfold allL
  have ht := trim_le X.data.toList [0]
  have hl := ba_len X
  refine Ev.step (f := fun _ => some (Lib.splitB ⟨#[0]⟩ 0 (Lib.countB ⟨(Lib.trimSuffix X.data.toList [0]).toArray⟩ ⟨#[0]⟩) ⟨(Lib.trimSuffix X.data.toList [0]).toArray⟩)) (fun k => ?_) (Ev.now _)
  unfold strtab_All.f
  rw [Lib.toList_data, if_neg h0, hR, hr, Option.bind_some]
  simp only [strtab_All.j0]
  unfold strings_TrimSuffix.f strings_Split.f
  rw [if_neg (by decide), if_pos (by omega), Option.bind_some, if_pos ⟨by show (Lib.trimSuffix X.data.toList [0]).length < _; omega, by decide⟩, Option.bind_some]
theorem all_joined (X : ByteArray) (h0 : X.data.toList ≠ []) (hr : rightB X.data.toList = true) : joined (allL X) = X.data.toList := by
  unfold allL
  rw [split_joined _ _ rfl]
  show Lib.trimSuffix X.data.toList [0] ++ [0] = _
  unfold rightB at hr
  rw [Bool.or_eq_true, Bool.and_eq_true] at hr
  rcases hr with hr | ⟨_, hr⟩
  · exact absurd (List.isEmpty_iff.1 hr) h0
  · unfold Lib.trimSuffix
    rw [if_pos hr]
    unfold Lib.hasSuffix at hr
    rw [List.isSuffixOf_iff_suffix] at hr
    obtain ⟨q, hq⟩ := hr
    rw [← hq]
    simp
theorem joined_total : ∀ l : List ByteArray, (joined l).length = total l
  | [] => rfl
  | x :: r => by
    have := joined_total r
    unfold joined total at this ⊢
    rw [List.flatMap_cons, List.length_append, List.length_append, List.length_singleton, ba_len, this, List.map_cons, List.sum_cons]
theorem len_total : ∀ l : List ByteArray, l.length ≤ total l
  | [] => Nat.le_refl _
  | x :: r => by
    have := len_total r
    unfold total at this ⊢
    rw [List.map_cons, List.sum_cons, List.length_cons]; omega
theorem total_take (l : List ByteArray) (j : Nat) : total (l.take j) ≤ total l := by
  induction l generalizing j with
  | nil => simp [total]
  | cons x r ih =>
    cases j with
    | zero => simp [total]
    | succ j =>
      have := ih j
      unfold total at this ⊢
      rw [List.take_succ_cons, List.map_cons, List.sum_cons, List.map_cons, List.sum_cons]; omega
theorem total_more (l : List ByteArray) (m : ByteArray) : total (l ++ [m]) = total l + (m.size + 1) := by
  unfold total; simp
theorem dark_free (l : List ByteArray) (h : l.any darkB = false) : ∀ s ∈ l, (0 : UInt8) ∉ s.data.toList := fun s hs h0 => by
  rw [List.any_eq_false] at h
  exact h s hs ((dark_iff s).2 h0)
theorem free_dark (l : List ByteArray) (h : ∀ s ∈ l, (0 : UInt8) ∉ s.data.toList) : l.any darkB = false := by
  rw [List.any_eq_false]
  exact fun s hs h0 => h s hs ((dark_iff s).1 h0)
theorem buildR_ok (l : List ByteArray) (hd : l.any darkB = false) (hT : (tabT l).length ≤ 1048576) : buildR l = (tabT l, outR (tabT l) l, 0) := by
  unfold buildR
  rw [if_neg (by rw [hd]; decide)]
  unfold tabT at hT ⊢
  rw [if_neg (by omega)]
theorem build_f (l : List ByteArray) (hl : l.length ≤ 1000000) (ht : 1 + total l ≤ 140737488355328) : strtab_Build.f l = some (⟨(buildR l).1.toArray⟩, (buildR l).2.1, (buildR l).2.2) := by
  unfold strtab_Build.f
  rw [if_pos ⟨hl, ht⟩]
theorem tab_right (l : List ByteArray) : tabT l ≠ [] ∧ rightB (tabT l) = true := by
  obtain ⟨q, hq⟩ := tabT_begins l
  obtain ⟨p, hp⟩ := tabT_ends l
  refine ⟨by rw [hq]; simp, ?_⟩
  unfold rightB
  have h1 : Lib.hasPrefix (tabT l) [0] = true := by rw [hq]; unfold Lib.hasPrefix; simp [List.isPrefixOf]
  have h2 : Lib.hasSuffix (tabT l) [0] = true := by
    rw [hp]; unfold Lib.hasSuffix
    rw [List.isSuffixOf_iff_suffix]
    exact ⟨p, rfl⟩
  rw [h1, h2]; simp
theorem again_ev (l0 : List ByteArray) (m0 : ByteArray) (hb : total l0 ≤ 140737488351232) : Ev (fun k => graverlaw03_StrtabAgain.f k l0 m0) true := by
  obtain ⟨j, hj, hj2, hj3⟩ : ∃ j : Nat, mn (l0.length : Int) 15 = (j : Int) ∧ j ≤ 15 ∧ j ≤ l0.length := ⟨min l0.length 15, by unfold mn; split <;> omega, by omega, by omega⟩
  obtain ⟨i, hi, hi2, hi3⟩ : ∃ i : Nat, mn (m0.size : Int) 20 = (i : Int) ∧ i ≤ 20 ∧ i ≤ m0.size := ⟨min m0.size 20, by unfold mn; split <;> omega, by omega, by omega⟩
  obtain ⟨L, hL⟩ : ∃ L, L = l0.take j := ⟨_, rfl⟩
  obtain ⟨X, hX⟩ : ∃ X, X = m0.extract 0 i := ⟨_, rfl⟩
  have hXs : X.size ≤ 20 := by rw [hX, ByteArray.size_extract]; omega
  have hLl : L.length ≤ 15 := by rw [hL, List.length_take]; omega
  have hLt : total L ≤ 140737488351232 := Nat.le_trans (by rw [hL]; exact total_take l0 j) hb
  have e1 := build_f L (by omega) (by omega)
  have e3 := build_f (L ++ [X]) (by rw [List.length_append, List.length_singleton]; omega) (by rw [total_more]; omega)
  have hstart : ∀ k, graverlaw03_StrtabAgain.f k l0 m0 = if (buildR L).2.2 = 0 then (if (((⟨(buildR L).1.toArray⟩ : ByteArray)).size : Int) > 3000 then some true else ((strtab_All.f k ⟨(buildR L).1.toArray⟩).bind fun t126 => ((strtab_Build.f t126).bind fun bt129 => (if bt129.2.2 = 0 then (if (bt129.1.size : Int) = (((⟨(buildR L).1.toArray⟩ : ByteArray)).size : Int) then (if (buildR (L ++ [X])).2.2 = 12 then (some true) else (if (buildR (L ++ [X])).2.2 = 0 then (some (decide (((⟨(buildR (L ++ [X])).1.toArray⟩ : ByteArray).size : Int) ≥ ((⟨(buildR L).1.toArray⟩ : ByteArray).size : Int)))) else (some false))) else (some false)) else (some false))))) else some true := by
    intro k
    unfold graverlaw03_StrtabAgain.f
    have c1 : ([] : List ByteArray).length + L.length < 8796093022208 := by rw [List.length_nil]; omega
    have c2 : (0 : Int) ≤ (i : Int) := by omega
    have c3 : (i : Int) ≤ (m0.size : Int) := by omega
    have c4 : ([] ++ L).length + [X].length < 8796093022208 := by rw [List.nil_append, List.length_singleton]; omega
    rw [speaks_ev, Option.bind_some, if_pos rfl, hj, if_pos (by omega), if_pos (by omega), Int.toNat_natCast, ← hL, e1, Option.bind_some, hi, Int.toNat_natCast, ← hX]
    simp only [Option.bind_some, if_pos c1, if_pos c2, if_pos c3, if_pos c4]
    rw [List.nil_append, e3]
    simp only [Option.bind_some]
  by_cases hd : L.any darkB = true
  · refine Ev.step (f := fun _ => some true) (fun k => ?_) (Ev.now _)
    rw [hstart]
    have : buildR L = ([], [], 12) := by unfold buildR; rw [if_pos hd]
    rw [this, if_neg (by decide)]
  have hd := Bool.eq_false_iff.2 hd
  by_cases hlong : 1048576 < (tabT L).length
  · refine Ev.step (f := fun _ => some true) (fun k => ?_) (Ev.now _)
    rw [hstart]
    have : buildR L = ([], [], 2) := by
      unfold buildR
      rw [if_neg (by rw [hd]; decide)]
      unfold tabT at hlong
      rw [if_pos hlong]
    rw [this, if_neg (by decide)]
  have e2 := buildR_ok L hd (by omega)
  obtain ⟨T, hT⟩ : ∃ T, T = (⟨(tabT L).toArray⟩ : ByteArray) := ⟨_, rfl⟩
  have hTs : T.size = (tabT L).length := by rw [hT]; rfl
  have hTd : T.data.toList = tabT L := by rw [hT]
  by_cases hbig : 3000 < (tabT L).length
  · refine Ev.step (f := fun _ => some true) (fun k => ?_) (Ev.now _)
    rw [hstart, e2, if_pos rfl, ← hT, if_pos (by rw [hTs]; omega)]
  obtain ⟨h0, hr⟩ := tab_right L
  rw [← hTd] at h0 hr
  obtain ⟨K1, h1⟩ := all_ev T (by omega) h0 hr
  have hjoin := all_joined T h0 hr
  rw [hTd] at hjoin
  have hP0 : ∀ p ∈ allL T, (0 : UInt8) ∉ p.data.toList := split_free _ _ rfl
  have hPt : total (allL T) = (tabT L).length := by rw [← joined_total, hjoin]
  have hPl := len_total (allL T)
  have hlen := again_len L (dark_free L hd) (allL T) hP0 hjoin
  have e4 := build_f (allL T) (by omega) (by omega)
  have e5 := buildR_ok (allL T) (free_dark _ hP0) (by omega)
  refine ⟨K1, fun k hk => ?_⟩
  have g1 := h1 k hk
  show graverlaw03_StrtabAgain.f k l0 m0 = some true
  simp only [] at g1
  rw [hstart, e2, if_pos rfl, ← hT, if_neg (by rw [hTs]; omega), g1, Option.bind_some, e4, Option.bind_some, e5]
  have hsz : ((⟨(tabT (allL T)).toArray⟩ : ByteArray).size : Int) = (T.size : Int) := by
    rw [hTs]
    show ((tabT (allL T)).length : Int) = _
    rw [hlen]
  simp only []
  rw [if_pos trivial, if_pos hsz]
  by_cases hd2 : (L ++ [X]).any darkB = true
  · have : buildR (L ++ [X]) = ([], [], 12) := by unfold buildR; rw [if_pos hd2]
    rw [this, if_pos rfl]
  have hm1 := more_most L X
  have hm2 := more_len L X
  rw [buildR_ok _ (Bool.eq_false_iff.2 hd2) (by omega), if_neg (by simp), if_pos rfl]
  congr 1
  rw [decide_eq_true_iff]
  show ((tabT (L ++ [X])).length : Int) ≥ (T.size : Int)
  rw [hTs]
  omega
end Go.Proofs.YtolgilamchadfaaDoorX.Ag
namespace Go.Proofs.YtolgilamchadfaaDoor
open Go.RowKit Go.Proofs.YtolgilamchadfaaDoorX.Ag Go.Proofs.YtolgilamchadfaaDoorW.PrintWords
theorem again_walk (l0 : List ByteArray) (a0 : Option Addr) (c0 : Nat) (x1 : ByteArray) (W : World) (hsh : W.ShapedOpen Tryd.prog) (hb : total l0 ≤ 140737488351232) (mc0 : l0.length ≤ c0) (rC0 : Kd.C Kd.string W a0 l0.length l0) :
    Calls Tryd.prog 3 #[.slice a0 l0.length c0, .string x1] W fun e w' => e = .returned (.bool true) ∧ Below W.heap.size W w' := by
  obtain ⟨k, hk⟩ := (again_ev l0 x1 hb).rounds
  exact graverlaw03_StrtabAgain.calls k a0 c0 l0 x1 true W (maxAt_of hsh) rC0 mc0 hk
end Go.Proofs.YtolgilamchadfaaDoor

/- Plain laws: ArlistUndoes comes to true; its walk. -/
import Derived.Test.YtienjagoplcimaaXUnx3
import Derived.Test.YtienjagoplcimaaXUnOp
namespace Go.Proofs.YtienjagoplcimaaX.Un
set_option linter.unusedVariables false
set_option linter.unusedSimpArgs false
open Go.RowKit Go.Proofs.Ytienjagoplcimaa Go.Proofs.YtienjagoplcimaaW.PrintWords Go.Proofs.YtienjagoplcimaaW.PrintLast Go.Proofs.YtienjagoplcimaaW.PrintMore

abbrev M := S28
def nm (c : Nat) : ByteArray := ⟨#[109, UInt8.ofNat (97 + c)]⟩
def new_ : ByteArray := ⟨#[110, 101, 119]⟩
def mNew : M := ⟨new_, 0, 0, 0, 0, ⟨#[]⟩⟩
theorem nm_ne {c d : Nat} (hc : c < 10) (hd : d < 10) (h : c ≠ d) : nm c ≠ nm d := by
  have : ∀ c d : Fin 10, c ≠ d → nm c.1 ≠ nm d.1 := by decide
  exact this ⟨c, hc⟩ ⟨d, hd⟩ (fun e => h (by injection e))
theorem nm_new {c : Nat} (hc : c < 10) : nm c ≠ new_ := by
  have : ∀ c : Fin 10, nm c.1 ≠ new_ := by decide
  exact this ⟨c, hc⟩
theorem rd28 (ms : List M) (j : Nat) (h : j < ms.length) : rd_T28 ms (j : Int) = ms[j] := by
  unfold rd_T28
  simp [h]
theorem toM_ofM (y : List MemD) : (y.map ofM).map toM = y := by
  rw [List.map_map]; conv => rhs; rw [← List.map_id y]
  rfl
theorem ofM_toM (y : List M) : (y.map toM).map ofM = y := by
  rw [List.map_map]; conv => rhs; rw [← List.map_id y]
  rfl
theorem text_inj {s t : ByteArray} (h : (s.toList == t.toList) = true) : s = t := by
  rw [Lib.toList_data, Lib.toList_data] at h
  have h2 := eq_of_beq h
  cases s; cases t
  congr
  exact Array.ext' h2
theorem find_mid (p q : List MemD) (m : MemD) (hp : ∀ x ∈ p, x.n ≠ m.n) : findN (p ++ m :: q) m.n = some p.length := by
  unfold findN
  have h1 : p.findIdx? (fun x => x.n.toList == m.n.toList) = none := List.findIdx?_eq_none_iff.2 (fun x hx => by
    cases hb : (x.n.toList == m.n.toList) with
    | false => rfl
    | true => exact absurd (text_inj hb) (hp x hx))
  rw [List.findIdx?_append, h1, List.findIdx?_cons]
  simp
theorem erase_mid (p q : List MemD) (m : MemD) : (p ++ m :: q).eraseIdx p.length = p ++ q := by
  rw [List.eraseIdx_append_of_length_le (Nat.le_refl _), Nat.sub_self]; rfl
theorem move_mid (p q : List MemD) (m : MemD) (hp : ∀ x ∈ p, x.n ≠ m.n) (t : Nat) (ht : t ≤ (p ++ q).length) : moveR (p ++ m :: q) m.n (t : Int) = ((p ++ q).take t ++ m :: (p ++ q).drop t, 0) := by
  unfold moveR
  rw [find_mid p q m hp]
  simp only []
  rw [List.length_append] at ht
  rw [if_neg (by rw [List.length_append, List.length_cons]; omega), show (p ++ m :: q)[p.length]? = some m by simp]
  simp only [erase_mid, Int.toNat_natCast]
theorem move_back (p q : List MemD) (m : MemD) (h : ∀ x ∈ p ++ q, x.n ≠ m.n) (t : Nat) : moveR ((p ++ q).take t ++ m :: (p ++ q).drop t) m.n (p.length : Int) = (p ++ m :: q, 0) := by
  rw [move_mid _ _ m (fun x hx => h x (List.mem_of_mem_take hx)) p.length (by rw [List.take_append_drop, List.length_append]; omega), List.take_append_drop, List.take_left, List.drop_left]
theorem ins_del (L : List MemD) (m : MemD) (h : ∀ x ∈ L, x.n ≠ m.n) (t : Nat) : deleteR (L.take t ++ [m] ++ L.drop t) [m.n] = (L, 0) := by
  have h1 : delR (L.take t ++ [m] ++ L.drop t) [m.n] = some L := by
    unfold delR
    rw [List.append_assoc, List.singleton_append, find_mid _ _ m (fun x hx => h x (List.mem_of_mem_take hx))]
    show delR _ [] = _
    rw [erase_mid, List.take_append_drop]
    rfl
  unfold deleteR
  rw [h1]
/-- the members' names -/
def Nms (x : List M) : Prop := x.length ≤ 10 ∧ ∀ i (h : i < x.length), (x[i]).f0 = nm i
theorem nms_new {x : List M} (h : Nms x) : ∀ y ∈ x.map toM, y.n ≠ (toM mNew).n := by
  intro y hy
  obtain ⟨z, hz, rfl⟩ := List.mem_map.1 hy
  obtain ⟨i, hi, rfl⟩ := List.mem_iff_getElem.1 hz
  show (x[i]).f0 ≠ new_
  rw [h.2 i hi]
  exact nm_new (by have := h.1; omega)
theorem nms_split {x : List M} (h : Nms x) (i : Nat) (hi : i < x.length) : ∃ p q : List MemD, x.map toM = p ++ toM x[i] :: q ∧ p.length = i ∧ (∀ y ∈ p ++ q, y.n ≠ (toM x[i]).n) := by
  refine ⟨(x.take i).map toM, (x.drop (i + 1)).map toM, ?_, ?_, ?_⟩
  · rw [← List.map_cons, ← List.map_append, ← List.drop_eq_getElem_cons hi, List.take_append_drop]
  · rw [List.length_map, List.length_take]; omega
  · intro y hy
    rw [← List.map_append] at hy
    obtain ⟨z, hz, rfl⟩ := List.mem_map.1 hy
    show z.f0 ≠ (x[i]).f0
    rw [h.2 i hi]
    have h10 := h.1
    rcases List.mem_append.1 hz with hz | hz
    · obtain ⟨j, hj, rfl⟩ := List.mem_iff_getElem.1 hz
      rw [List.length_take] at hj
      rw [List.getElem_take, h.2 j (by omega)]
      exact nm_ne (by omega) (by omega) (by omega)
    · obtain ⟨j, hj, rfl⟩ := List.mem_iff_getElem.1 hz
      rw [List.length_drop] at hj
      rw [List.getElem_drop, h.2 (i + 1 + j) (by omega)]
      exact nm_ne (by omega) (by omega) (by omega)
theorem l2_ev (X : List M) (hl : X.length ≤ 1000) : ∀ d j, j + d = X.length → Ev (fun k => graverlaw23_ArlistUndoes.l2 k X (X.length : Int) X (j : Int)) true := by
  intro d
  induction d with
  | zero =>
    intro j hj
    refine Ev.step (f := fun _ => some true) (fun k => ?_) (Ev.now _)
    simp only [graverlaw23_ArlistUndoes.l2]; rw [if_neg (by omega)]
  | succ d ih =>
    intro j hj
    refine Ev.step (f := fun k => graverlaw23_ArlistUndoes.l2 k X (X.length : Int) X ((j + 1 : Nat) : Int)) (fun k => ?_) (ih (j + 1) (by omega))
    simp only [graverlaw23_ArlistUndoes.l2]
    rw [if_pos (by omega), if_pos (by omega), if_pos (by omega), if_pos (by omega), if_neg (by simp), wrap_up j (by omega)]
theorem mod_up (x : Int) (L : Nat) (hL : L ≤ 100) (h0 : 0 < L) : ∃ n : Nat, n < L ∧ (Int.tmod (wrap64 ((Int.tmod x (L : Int)) + (L : Int))) (L : Int)) = (n : Int) := by
  obtain ⟨r, hr⟩ : ∃ r, r = Int.tmod x (L : Int) := ⟨_, rfl⟩
  have h1 : r < (L : Int) := by rw [hr]; exact Int.tmod_lt_of_pos x (by omega)
  have h2 : -(L : Int) < r := by rw [hr]; exact Int.lt_tmod_of_pos x (by omega)
  rw [← hr, wrap_s (x := r + (L : Int)) (by omega) (by omega)]
  have h3 : 0 ≤ Int.tmod (r + (L : Int)) (L : Int) := Int.tmod_nonneg _ (by omega)
  have h4 : Int.tmod (r + (L : Int)) (L : Int) < (L : Int) := Int.tmod_lt_of_pos _ (by omega)
  exact ⟨(Int.tmod (r + (L : Int)) (L : Int)).toNat, by omega, by omega⟩
theorem cutn (x : Int) (L : Nat) (hL : L ≤ 100) : ∃ n : Nat, n ≤ L ∧ (Int.tmod (wrap64 ((wrap64 ((Int.tmod x (wrap64 ((L : Int) + 1))) + (L : Int))) + 1)) (wrap64 ((L : Int) + 1))) = (n : Int) := by
  rw [wrap_s (x := (L : Int) + 1) (by omega) (by omega)]
  obtain ⟨r, hr⟩ : ∃ r, r = Int.tmod x ((L : Int) + 1) := ⟨_, rfl⟩
  have h1 : r < (L : Int) + 1 := by rw [hr]; exact Int.tmod_lt_of_pos x (by omega)
  have h2 : -((L : Int) + 1) < r := by rw [hr]; exact Int.lt_tmod_of_pos x (by omega)
  rw [← hr, wrap_s (x := r + (L : Int)) (by omega) (by omega), wrap_s (by omega) (by omega)]
  have h3 : 0 ≤ Int.tmod (r + (L : Int) + 1) ((L : Int) + 1) := Int.tmod_nonneg _ (by omega)
  have h4 : Int.tmod (r + (L : Int) + 1) ((L : Int) + 1) < (L : Int) + 1 := Int.tmod_lt_of_pos _ (by omega)
  exact ⟨(Int.tmod (r + (L : Int) + 1) ((L : Int) + 1)).toNat, by omega, by omega⟩
theorem end_ev (X : List M) (hN : Nms X) (h0 : 0 < X.length) (q : Nat) (x2 : Int) : Ev (fun k => graverlaw23_ArlistUndoes.l1 k (q : Int) x2 X (X.length : Int) X (X.length : Int)) true := by
  have h10 := hN.1
  obtain ⟨t, ht, hto⟩ := mod_up x2 X.length (by omega) h0
  obtain ⟨i, hi⟩ : ∃ i, i = q % X.length := ⟨_, rfl⟩
  have hil : i < X.length := by rw [hi]; exact Nat.mod_lt _ h0
  have hat : Int.tmod (q : Int) (X.length : Int) = (i : Int) := by rw [Int.tmod_eq_emod_of_nonneg (by omega), hi]; omega
  obtain ⟨p, r, hs, hpl, hne⟩ := nms_split hN i hil
  obtain ⟨m, hm⟩ : ∃ m, m = toM X[i] := ⟨_, rfl⟩
  rw [← hm] at hs hne
  have hlen : X.length = (p ++ r).length + 1 := by
    have := congrArg List.length hs
    rw [List.length_map, List.length_append, List.length_cons] at this
    rw [List.length_append]; omega
  have hmn : (X[i]).f0 = m.n := by rw [hm]; rfl
  have m1 := move_mid p r m (fun x hx => hne x (List.mem_append_left _ hx)) t (by omega)
  have m2 := move_back p r m hne t
  rw [← hs] at m1 m2
  rw [hpl] at m2
  obtain ⟨C, hC⟩ : ∃ C, C = (p ++ r).take t ++ m :: (p ++ r).drop t := ⟨_, rfl⟩
  rw [← hC] at m1 m2
  have hCl : C.length = X.length := by rw [hC, List.length_append, List.length_cons, List.length_take, List.length_drop]; omega
  have hCt : (C.map ofM)[t]'(by rw [List.length_map]; omega) = X[i] := by
    rw [List.getElem_map]
    have : C[t]'(by omega) = m := by
      have h2 : C[t]? = some m := by
        rw [hC, List.getElem?_append_right (by rw [List.length_take]; omega), List.length_take, show t - min t (p ++ r).length = 0 by omega]; rfl
      rw [List.getElem?_eq_getElem (by omega)] at h2
      exact Option.some.inj h2
    rw [this, hm]; rfl
  have f1 : arlist_Move.f X (X[i]).f0 (t : Int) = some (C.map ofM, 0) := by unfold arlist_Move.f; rw [if_pos (by omega), hmn, m1]
  have f2 : arlist_Move.f (C.map ofM) (X[i]).f0 (i : Int) = some (X, 0) := by unfold arlist_Move.f; rw [if_pos (by rw [List.length_map]; omega), hmn, toM_ofM, m2, ofM_toM]
  refine Ev.step (f := fun k => graverlaw23_ArlistUndoes.j4 k X (X.length : Int) X false) (fun k => ?_) (Ev.step (f := fun k => graverlaw23_ArlistUndoes.l2 k X (X.length : Int) X 0) (fun k => ?_) (l2_ev X (by omega) X.length 0 (by omega)))
  · simp only [graverlaw23_ArlistUndoes.l1, hat, hto]
    rw [if_neg (by omega), if_neg (by omega), if_pos (by omega), if_pos (by omega), rd28 X i hil, f1, Option.bind_some, f2, Option.bind_some]
    simp only [if_true]
    rw [if_pos (by omega), if_pos (by rw [List.length_map]; omega), rd28 (C.map ofM) t (by rw [List.length_map]; omega), hCt]
    simp
  · simp [graverlaw23_ArlistUndoes.j4]
theorem l1_ev (X : List M) (hN : Nms X) (q : Nat) (x2 : Int) : ∀ d j, j + d = X.length → Ev (fun k => graverlaw23_ArlistUndoes.l1 k (q : Int) x2 X (X.length : Int) X (j : Int)) true := by
  have h10 := hN.1
  intro d
  induction d with
  | zero =>
    intro j hj
    obtain rfl : j = X.length := by omega
    by_cases h0 : X.length = 0
    · refine Ev.step (f := fun _ => some true) (fun k => ?_) (Ev.now _)
      simp only [graverlaw23_ArlistUndoes.l1]; rw [if_neg (by omega), if_pos (by omega)]
    · exact end_ev X hN (by omega) q x2
  | succ d ih =>
    intro j hj
    refine Ev.step (f := fun k => graverlaw23_ArlistUndoes.l1 k (q : Int) x2 X (X.length : Int) X ((j + 1 : Nat) : Int)) (fun k => ?_) (ih (j + 1) (by omega))
    simp only [graverlaw23_ArlistUndoes.l1]
    rw [if_pos (by omega), if_pos (by omega), if_pos (by omega), if_pos (by omega), if_neg (by simp), wrap_up j (by omega)]
theorem j1_ev (X : List M) (hN : Nms X) (x1 x2 : Int) : Ev (fun k => graverlaw23_ArlistUndoes.j1 k x1 x2 X) true := by
  have h10 := hN.1
  obtain ⟨q, hq, hcut⟩ := cutn x1 X.length (by omega)
  have hw : wrap64 ((X.length : Int) + 1) ≠ 0 := by rw [wrap_s (by omega) (by omega)]; omega
  have hg : (([mNew] : List M).all fun e => decide (0 < e.f0.size ∧ e.f0.size ≤ 255 ∧ (e.f0.data.toList.all fun b => decide (b.toNat < 128)) = true ∧ Lib.containsAny e.f0.data.toList [47, 10, 0] = false)) = true := by decide
  obtain ⟨L, hL⟩ : ∃ L, L = X.map toM := ⟨_, rfl⟩
  have hLl : L.length = X.length := by rw [hL, List.length_map]
  have f1 : arlist_Insert.f X (q : Int) [mNew] = some ((L.take q ++ [toM mNew] ++ L.drop q).map ofM, 0) := by
    unfold arlist_Insert.f
    rw [if_pos ⟨by omega, by decide, by decide, hg⟩, ← hL]
    unfold insertR
    rw [if_neg (by omega), if_neg (by rw [List.length_map]; simp; omega), Int.toNat_natCast]
    rfl
  have f2 : arlist_Delete.f ((L.take q ++ [toM mNew] ++ L.drop q).map ofM) [new_] = some (X, 0) := by
    unfold arlist_Delete.f
    rw [if_pos ⟨by simp; omega, by decide⟩, toM_ofM]
    have := ins_del L (toM mNew) (by rw [hL]; exact nms_new hN) q
    rw [show (toM mNew).n = new_ from rfl] at this
    rw [this, hL, ofM_toM]
  refine Ev.step (f := fun k => graverlaw23_ArlistUndoes.j2 k (q : Int) x2 X (X.length : Int) X false) (fun k => ?_) (Ev.step (f := fun k => graverlaw23_ArlistUndoes.l1 k (q : Int) x2 X (X.length : Int) X 0) (fun k => ?_) (l1_ev X hN q x2 X.length 0 (by omega)))
  · simp only [graverlaw23_ArlistUndoes.j1, hcut]
    rw [if_neg hw]
    rw [show ([(⟨(⟨#[110, 101, 119]⟩ : ByteArray), 0, 0, 0, 0, (⟨#[]⟩ : ByteArray)⟩ : M)] : List M) = [mNew] from rfl, show ([(⟨#[110, 101, 119]⟩ : ByteArray)] : List ByteArray) = [new_] from rfl, f1, Option.bind_some, f2, Option.bind_some]
    simp
  · simp [graverlaw23_ArlistUndoes.j2]
theorem name_at (c : Nat) (hc : c < 10) : (⟨#[109]⟩ : ByteArray) ++ strOfNums [(wrap64 (97 + (c : Int))) % 256] = nm c ∧ (strOfNums [(wrap64 (97 + (c : Int))) % 256]).size = 1 := by
  rw [wrap_s (by omega) (by omega)]
  have : ∀ c : Fin 10, (⟨#[109]⟩ : ByteArray) ++ strOfNums [(97 + (c.1 : Int)) % 256] = nm c.1 ∧ (strOfNums [(97 + (c.1 : Int)) % 256]).size = 1 := by decide
  exact this ⟨c, hc⟩
theorem l0_ev (x0 : List ByteArray) (x1 x2 : Int) : ∀ d (X : List M), X.length + d = 10 → Nms X → Ev (fun k => graverlaw23_ArlistUndoes.l0 k x0 x1 x2 X (X.length : Int)) true := by
  intro d
  induction d with
  | zero =>
    intro X hl hN
    refine Ev.step (fun k => ?_) (j1_ev X hN x1 x2)
    simp only [graverlaw23_ArlistUndoes.l0]
    split
    · rw [if_neg (by omega)]
    · rfl
  | succ d ih =>
    intro X hl hN
    by_cases hlt : X.length < x0.length
    · obtain ⟨hn, hsz⟩ := name_at X.length (by omega)
      obtain ⟨z, hz⟩ : ∃ z : M, z = ⟨nm X.length, 0, 0, 0, 0, rdOf ByteArray.empty x0 (X.length : Int)⟩ := ⟨_, rfl⟩
      have hih := ih (X ++ [z]) (by rw [List.length_append]; simp; omega) ⟨by rw [List.length_append]; simp; omega, fun i hi => by
        rw [List.length_append] at hi
        by_cases h : i < X.length
        · rw [List.getElem_append_left h]; exact hN.2 i h
        · have : i = X.length := by simp at hi; omega
          subst this
          rw [List.getElem_append_right (by omega)]
          simp [hz]⟩
      rw [show ((X ++ [z]).length) = X.length + 1 by simp] at hih
      refine Ev.step (f := fun k => graverlaw23_ArlistUndoes.l0 k x0 x1 x2 (X ++ [z]) ((X.length + 1 : Nat) : Int)) (fun k => ?_) hih
      simp only [graverlaw23_ArlistUndoes.l0]
      rw [if_pos (by omega), if_pos (by omega), Option.bind_some, if_pos (by rw [hsz]; decide), if_pos (by omega), if_pos (by omega), wrap_up X.length (by omega), hn, ← hz]
    · refine Ev.step (fun k => ?_) (j1_ev X hN x1 x2)
      simp only [graverlaw23_ArlistUndoes.l0]
      rw [if_neg (by omega)]
theorem undoes_ev (l0 : List ByteArray) (a1 a2 : Int) : Ev (fun k => graverlaw23_ArlistUndoes.f k l0 a1 a2) true := by
  refine Ev.congr (fun k => ?_) (l0_ev l0 a1 a2 10 [] rfl ⟨Nat.zero_le _, fun i hi => absurd hi (Nat.not_lt_zero _)⟩)
  unfold graverlaw23_ArlistUndoes.f
  rfl
end Go.Proofs.YtienjagoplcimaaX.Un
namespace Go.Proofs.Ytienjagoplcimaa
open Go.RowKit Go.Proofs.YtienjagoplcimaaX.Un Go.Proofs.YtienjagoplcimaaW.PrintWords
theorem undoes_walk (l0 : List ByteArray) (a0 : Option Addr) (c0 : Nat) (x1 x2 : Int) (W : World) (mc0 : l0.length ≤ c0) (rC0 : Kd.C Kd.string W a0 l0.length l0) :
    Calls Try.prog 4 #[.slice a0 l0.length c0, .int .i64 x1, .int .i64 x2] W fun e w' => e = .returned (.bool true) ∧ Below W.heap.size W w' := by
  obtain ⟨k, hk⟩ := (undoes_ev l0 x1 x2).rounds
  exact graverlaw23_ArlistUndoes.calls k a0 c0 l0 x1 x2 true W rC0 mc0 hk
end Go.Proofs.Ytienjagoplcimaa

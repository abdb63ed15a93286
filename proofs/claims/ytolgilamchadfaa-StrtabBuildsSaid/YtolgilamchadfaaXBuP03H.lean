/- Plain laws: StrtabBuilds comes to true; its walk. -/
import Derived.Test.YtolgilamchadfaaXBuP03G
import Derived.Test.YtolgilamchadfaaXBuOp
namespace Go.Proofs.YtolgilamchadfaaX.Bu
set_option linter.unusedVariables false
set_option linter.unusedSimpArgs false
open Go.RowKit Go.Proofs.Ytolgilamchadfaa Go.Proofs.YtolgilamchadfaaW.PrintWords Go.Proofs.YtolgilamchadfaaW.PrintLast Go.Proofs.YtolgilamchadfaaW.PrintMore

theorem longest_le (M : Nat) : ∀ l : List ByteArray, (∀ s ∈ l, s.size ≤ M) → longest l ≤ M
  | [], _ => Nat.zero_le _
  | x :: r, h => by
    unfold longest
    rw [List.foldr_cons]
    exact Nat.max_le.2 ⟨h x (by simp), longest_le M r (fun s hs => h s (by simp [hs]))⟩
theorem build_room (L : List ByteArray) (hl : L.length ≤ 20) (hM : ∀ s ∈ L, s.size ≤ 30) : L.length ≤ 1000000 ∧ 1 + L.length * (longest L + 1) ≤ 140737488355328 ∧ longest L ≤ 9223372036854775807 := by
  have h1 := longest_le 30 L hM
  have h2 : L.length * (longest L + 1) ≤ 20 * 31 := Nat.mul_le_mul hl (by omega)
  exact ⟨by omega, by omega, by omega⟩
theorem tabT_len (L : List ByteArray) (hl : L.length ≤ 20) (hM : ∀ s ∈ L, s.size ≤ 30) : (tabT L).length ≤ 700 := by
  have h := stT_len hM (come L.length L.length)
  rw [come_length] at h
  have h2 : L.length * (30 + 1) ≤ 20 * 31 := Nat.mul_le_mul hl (by omega)
  unfold tabT
  omega
theorem build_dark (L : List ByteArray) (hl : L.length ≤ 20) (hM : ∀ s ∈ L, s.size ≤ 30) (hd : L.any darkB = true) : strtab_Build.f L = some (⟨#[]⟩, [], 12) := by
  unfold strtab_Build.f buildR
  rw [if_pos (build_room L hl hM), if_pos hd]
theorem build_ok (L : List ByteArray) (hl : L.length ≤ 20) (hM : ∀ s ∈ L, s.size ≤ 30) (hd : L.any darkB = false) : strtab_Build.f L = some (⟨(tabT L).toArray⟩, outR (tabT L) L, 0) := by
  have := tabT_len L hl hM
  unfold strtab_Build.f buildR
  rw [if_pos (build_room L hl hM), if_neg (by rw [hd]; decide)]
  show some _ = _
  rw [show (stT L (come L.length L.length)).1 = tabT L from rfl, if_neg (by omega)]
theorem right_tab (L : List ByteArray) (hl : L.length ≤ 20) (hM : ∀ s ∈ L, s.size ≤ 30) : strtab_Right.f ⟨(tabT L).toArray⟩ = some true := by
  obtain ⟨q, hq⟩ := tabT_begins L
  obtain ⟨p, hp⟩ := tabT_ends L
  have hlen := tabT_len L hl hM
  unfold strtab_Right.f strings_HasPrefix.f strings_HasSuffix.f
  rw [ba_list, if_neg (by rw [hq]; simp), Option.bind_some]
  have h1 : Lib.hasPrefix (tabT L) [0] = true := by rw [hq]; simp [Lib.hasPrefix]
  have h2 : Lib.hasSuffix (tabT L) [0] = true := by
    rw [hp]; unfold Lib.hasSuffix; rw [List.isSuffixOf_iff_suffix]; exact List.suffix_append _ _
  show (if Lib.hasPrefix (tabT L) [0] = true then _ else _) = _
  rw [if_pos h1, if_pos (by show (tabT L).length ≤ _; omega), Option.bind_some]
  show some (Lib.hasSuffix (tabT L) [0]) = _
  rw [h2]
theorem place (L : List ByteArray) (hM : ∀ s ∈ L, s.size ≤ 30) (s : ByteArray) (hs : s ∈ L) : ∃ m : Nat, Lib.index (tabT L) (s.data.toList ++ [0]) = (m : Int) ∧ m ≤ (tabT L).length ∧ Lib.occAt (tabT L) (s.data.toList ++ [0]) m = true ∧ ∀ j, j < m → Lib.occAt (tabT L) (s.data.toList ++ [0]) j = false := by
  rcases Lib.index_spec (tabT L) (s.data.toList ++ [0]) with ⟨_, hno⟩ | ⟨i, hz, hi, ho, hf⟩
  · exfalso
    obtain ⟨j, hj⟩ := tabT_has L 30 hM s hs
    rcases Nat.lt_or_ge (tabT L).length j with h | h
    · rw [List.drop_of_length_le (by omega)] at hj
      cases hn : s.data.toList <;> rw [hn] at hj <;> cases hj
    · have := hno j h
      unfold Lib.occAt at this
      rw [this] at hj; cases hj
  · exact ⟨i, hz, hi, ho, hf⟩
theorem l3_ev (L : List ByteArray) (hl : L.length ≤ 20) (hM : ∀ s ∈ L, s.size ≤ 30) (i : Nat) (hi : i < L.length) (h0 : (0 : UInt8) ∉ (el L i).data.toList) (m : Nat) (hm : m ≤ (tabT L).length) (hrd : rd (outR (tabT L) L) (i : Int) = (m : Int)) (hf : ∀ j, j < m → Lib.occAt (tabT L) ((el L i).data.toList ++ [0]) j = false)
    (H : Ev (fun k => graverlaw03_StrtabBuilds.l2 k L ⟨(tabT L).toArray⟩ (outR (tabT L) L) ((i + 1 : Nat) : Int)) true) : ∀ d j, j + d = m → Ev (fun k => graverlaw03_StrtabBuilds.l3 k L ⟨(tabT L).toArray⟩ (outR (tabT L) L) (i : Int) (j : Int)) true := by
  have hlen := tabT_len L hl hM
  have hol : (outR (tabT L) L).length = L.length := by unfold outR; rw [List.length_map]
  intro d
  induction d with
  | zero =>
    intro j hj
    refine Ev.step (fun k => ?_) H
    simp only [graverlaw03_StrtabBuilds.l3]
    rw [if_pos (by omega), if_pos (by omega), hrd, if_neg (by omega), wrap_up i (by omega)]
  | succ d ih =>
    intro j hj
    have ht := text_t ⟨(tabT L).toArray⟩ (by show (tabT L).length ≤ _; omega) j
    have hne : ¬ (tx (tabT L) j).1.toList = (el L i).toList := by
      rw [Lib.toList_data, Lib.toList_data]
      have hno := hf j (by omega)
      cases hr : textR ((tabT L).drop j) with
      | some s =>
        rw [tx_some hr]
        intro he
        have he' : s = (el L i).data.toList := he
        have := ((textR_iff _ _).1 hr).2
        rw [he'] at this
        unfold Lib.occAt at hno
        rw [this] at hno; cases hno
      | none =>
        rw [tx_none hr]
        intro he
        have he' : (el L i).data.toList = [] := he.symm
        have h00 := hf 0 (by omega)
        obtain ⟨q, hq⟩ := tabT_begins L
        rw [he', hq] at h00
        simp [Lib.occAt] at h00
    refine Ev.step (f := fun k => graverlaw03_StrtabBuilds.l3 k L ⟨(tabT L).toArray⟩ (outR (tabT L) L) (i : Int) ((j + 1 : Nat) : Int)) (fun k => ?_) (ih (j + 1) (by omega))
    simp only [graverlaw03_StrtabBuilds.l3]
    rw [if_pos (by omega), if_pos (by omega), hrd, if_pos (by omega), ht, Option.bind_some, if_pos (by omega), rd_el, if_neg hne, u64w (by omega) (by omega)]
    rfl
theorem l2_ev (L : List ByteArray) (hl : L.length ≤ 20) (hM : ∀ s ∈ L, s.size ≤ 30) (hd : L.any darkB = false) : ∀ d i, i + d = L.length → Ev (fun k => graverlaw03_StrtabBuilds.l2 k L ⟨(tabT L).toArray⟩ (outR (tabT L) L) (i : Int)) true := by
  have hlen := tabT_len L hl hM
  have hol : (outR (tabT L) L).length = L.length := by unfold outR; rw [List.length_map]
  intro d
  induction d with
  | zero =>
    intro i hi
    refine Ev.step (f := fun _ => some true) (fun k => ?_) (Ev.now _)
    simp only [graverlaw03_StrtabBuilds.l2]
    rw [if_neg (by omega)]
  | succ d ih =>
    intro i hi
    have hmem : el L i ∈ L := by rw [el_get L i (by omega)]; exact List.getElem_mem (by omega)
    have h0 : (0 : UInt8) ∉ (el L i).data.toList := fun h => by
      have := List.any_eq_false.1 hd _ hmem
      exact this ((dark_iff _).2 h)
    obtain ⟨m, hm1, hm2, hm3, hm4⟩ := place L hM _ hmem
    have hrd : rd (outR (tabT L) L) (i : Int) = (m : Int) := by
      unfold rd outR
      rw [Int.toNat_natCast, List.getD_eq_getElem?_getD, List.getElem?_map, List.getElem?_eq_getElem (by omega : i < L.length), Option.map_some, Option.getD_some, ← el_get L i (by omega), hm1, u64w (by omega) (by omega)]
    have ht := text_t ⟨(tabT L).toArray⟩ (by show (tabT L).length ≤ _; omega) m
    have htx : tx (tabT L) m = (⟨(el L i).data.toList.toArray⟩, true) := tx_some ((textR_iff _ _).2 ⟨h0, hm3⟩)
    refine Ev.step (f := fun k => graverlaw03_StrtabBuilds.j4 k L ⟨(tabT L).toArray⟩ (outR (tabT L) L) (i : Int) false) (fun k => ?_) (Ev.step (f := fun k => graverlaw03_StrtabBuilds.l3 k L ⟨(tabT L).toArray⟩ (outR (tabT L) L) (i : Int) 0) (fun k => ?_) (l3_ev L hl hM i (by omega) h0 m hm2 hrd hm4 (ih (i + 1) (by omega)) m 0 (by omega)))
    · simp only [graverlaw03_StrtabBuilds.l2]
      rw [if_pos (by omega), if_pos (by omega), if_pos (by omega), hrd, ht, Option.bind_some]
      rw [show (⟨(tabT L).toArray⟩ : ByteArray).data.toList = tabT L from rfl, htx, if_pos rfl, rd_el, ba_list]
      simp
    · simp [graverlaw03_StrtabBuilds.j4]
theorem end_ev (L : List ByteArray) (hl : L.length ≤ 20) (hM : ∀ s ∈ L, s.size ≤ 30) : Ev (fun k => graverlaw03_StrtabBuilds.l0 k L (L.any darkB) (L.length : Int)) true := by
  cases hd : L.any darkB
  · have hb := build_ok L hl hM hd
    have hol : (outR (tabT L) L).length = L.length := by unfold outR; rw [List.length_map]
    obtain ⟨K1, h1⟩ := rb_ev L (by omega) (fun s hs => by have := hM s hs; omega)
    obtain ⟨K2, h2⟩ := l2_ev L hl hM hd L.length 0 (by omega)
    have hr := right_tab L hl hM
    refine ⟨K1 + K2 + 2, fun k hk => ?_⟩
    obtain ⟨k', rfl⟩ : ∃ k', k = k' + 1 + 1 := ⟨k - 2, by omega⟩
    have g1 := h1 (k' + 1) (by omega)
    have g2 := h2 k' (by omega)
    simp only [] at g1 g2
    simp only [graverlaw03_StrtabBuilds.l0]
    rw [if_neg (by omega), hb, Option.bind_some, if_neg (by decide), if_pos rfl, g1, Option.bind_some, if_pos rfl, if_pos (by show ((outR (tabT L) L).length : Int) = _; omega), hr, Option.bind_some]
    simp only [graverlaw03_StrtabBuilds.j2]
    rw [if_neg (by decide)]
    exact g2
  · have hb := build_dark L hl hM hd
    refine Ev.step (f := fun _ => some true) (fun k => ?_) (Ev.now _)
    simp only [graverlaw03_StrtabBuilds.l0]
    rw [if_neg (by omega), hb, Option.bind_some, if_pos trivial, if_pos rfl, Lib.toList_data, if_pos rfl]
    rfl
theorem bt_list (t : ByteArray) (n : Nat) (h : n < t.data.toList.length) : bt t (n : Int) = ((t.data.toList[n]).toNat : Int) := by
  have h2 : n < t.size := by rw [ba_len] at h; exact h
  unfold bt
  rw [dif_pos (by simpa using h2)]
  congr 1
theorem l1_ev (L : List ByteArray) (i : Nat) (hi : i < L.length) (hl : L.length ≤ 20) (hs : (el L i).size ≤ 30) (B0 : Bool) (H : Ev (fun k => graverlaw03_StrtabBuilds.l0 k L (B0 || darkB (el L i)) ((i + 1 : Nat) : Int)) true) :
    ∀ d p (b : Bool), p + d = (el L i).size → b = (B0 || decide ((0 : UInt8) ∈ (el L i).data.toList.take p)) → Ev (fun k => graverlaw03_StrtabBuilds.l1 k L b (i : Int) (p : Int)) true := by
  intro d
  induction d with
  | zero =>
    intro p b hp hb
    have hbd : b = (B0 || darkB (el L i)) := by
      rw [hb, List.take_of_length_le (by rw [ba_len]; omega)]
      congr 1
      cases hd : darkB (el L i) with
      | false => rw [decide_eq_false]; intro h; rw [(dark_iff _).2 h] at hd; cases hd
      | true => exact decide_eq_true ((dark_iff _).1 hd)
    rw [hbd]
    refine Ev.step (fun k => ?_) H
    simp only [graverlaw03_StrtabBuilds.l1]
    rw [if_pos (by omega), if_pos (by omega), rd_el, if_neg (by omega), wrap_up i (by omega)]
  | succ d ih =>
    intro p b hp hb
    have hpl : p < (el L i).data.toList.length := by rw [ba_len]; omega
    have hbt := bt_list (el L i) p hpl
    have htake := List.take_succ_eq_append_getElem hpl
    cases b
    · refine Ev.step (f := fun k => graverlaw03_StrtabBuilds.l1 k L (bt (el L i) (p : Int) == 0) (i : Int) ((p + 1 : Nat) : Int)) (fun k => ?_) (ih (p + 1) _ (by omega) ?_)
      · simp only [graverlaw03_StrtabBuilds.l1]
        rw [if_pos (by omega), if_pos (by omega), rd_el, if_pos (by omega), if_neg (by decide), if_pos (by omega), wrap_up p (by omega)]
      · have hb2 := hb.symm
        rw [Bool.or_eq_false_iff] at hb2
        have h0 : (0 : UInt8) ∉ (el L i).data.toList.take p := of_decide_eq_false hb2.2
        rw [htake, hbt, hb2.1, Bool.false_or]
        generalize (el L i).data.toList[p] = c
        by_cases hc : c = 0
        · subst hc; simp
        · have : ¬ ((c.toNat : Int) = 0) := fun h => hc (UInt8.toNat_inj.1 (by simpa using h))
          rw [decide_eq_false (by simp [h0, Ne.symm hc])]
          simpa using this
    · refine Ev.step (f := fun k => graverlaw03_StrtabBuilds.l1 k L true (i : Int) ((p + 1 : Nat) : Int)) (fun k => ?_) (ih (p + 1) _ (by omega) ?_)
      · simp only [graverlaw03_StrtabBuilds.l1]
        rw [if_pos (by omega), if_pos (by omega), rd_el, if_pos (by omega), if_pos trivial, wrap_up p (by omega)]
      · rw [htake]
        have hb2 := hb.symm
        rw [Bool.or_eq_true] at hb2
        symm
        rw [Bool.or_eq_true]
        rcases hb2 with h | h
        · exact .inl h
        · have h0 := of_decide_eq_true h
          exact .inr (decide_eq_true (by simp [h0]))
theorem l0_ev : ∀ d i (L : List ByteArray) (b : Bool), i + d = L.length → L.length ≤ 20 → (∀ j, j < i → (el L j).size ≤ 30) → b = (L.take i).any darkB → Ev (fun k => graverlaw03_StrtabBuilds.l0 k L b (i : Int)) true := by
  intro d
  induction d with
  | zero =>
    intro i L b hi hl hM hb
    have hM2 : ∀ s ∈ L, s.size ≤ 30 := fun s hs => by
      obtain ⟨j, hj, rfl⟩ := List.mem_iff_getElem.1 hs
      rw [← el_get L j hj]
      exact hM j (by omega)
    rw [hb, show i = L.length by omega, List.take_length]
    exact end_ev L hl hM2
  | succ d ih =>
    intro i L b hi hl hM hb
    obtain ⟨s, hs⟩ : ∃ s, s = el L i := ⟨_, rfl⟩
    obtain ⟨j, hj, hj2, hj3⟩ : ∃ j : Nat, mn (s.size : Int) 30 = (j : Int) ∧ j ≤ 30 ∧ j ≤ s.size := ⟨min s.size 30, by unfold mn; split <;> omega, by omega, by omega⟩
    obtain ⟨s', hs'⟩ : ∃ s', s' = s.extract 0 j := ⟨_, rfl⟩
    have hsz : s'.size ≤ 30 := by rw [hs', ByteArray.size_extract]; omega
    obtain ⟨L', hL'⟩ : ∃ L', L' = L.set i s' := ⟨_, rfl⟩
    have hll : L'.length = L.length := by rw [hL', List.length_set]
    have heli : el L' i = s' := by
      rw [el_get L' i (by omega)]
      simp [hL']
    have helj : ∀ t, t < i → el L' t = el L t := fun t ht => by
      unfold el
      rw [hL', List.getElem?_set_ne (by omega)]
    have htk : (L'.take (i + 1)).any darkB = (b || darkB s') := by
      rw [List.take_succ_eq_append_getElem (by omega : i < L'.length), List.any_append, ← el_get L' i (by omega), heli, hb]
      congr 1
      · rw [hL', List.take_set_of_le (by omega)]
      · simp
    have H := ih (i + 1) L' (b || darkB (el L' i)) (by omega) (by omega) (fun t ht => by
      rcases Nat.lt_or_ge t i with h | h
      · rw [helj t h]; exact hM t h
      · obtain rfl : t = i := by omega
        rw [heli]; exact hsz) (by rw [heli, htk])
    have h1 := l1_ev L' i (by omega) (by omega) (by rw [heli]; exact hsz) b H (el L' i).size 0 b (by omega) (by simp)
    refine Ev.step (fun k => ?_) h1
    simp only [graverlaw03_StrtabBuilds.l0]
    rw [if_pos (by omega), if_pos (by omega), rd_el, ← hs, hj, if_pos (by omega), if_pos (by omega), Int.toNat_natCast, Int.toNat_natCast, ← hs', ← hL']
    rfl
theorem builds_ev (l0 : List ByteArray) : Ev (fun k => graverlaw03_StrtabBuilds.f k l0) true := by
  obtain ⟨j, hj, hj2, hj3⟩ : ∃ j : Nat, mn (l0.length : Int) 20 = (j : Int) ∧ j ≤ 20 ∧ j ≤ l0.length := ⟨min l0.length 20, by unfold mn; split <;> omega, by omega, by omega⟩
  have hlen : (l0.take j).length = j := by rw [List.length_take]; omega
  refine Ev.congr (fun k => ?_) (l0_ev j 0 (l0.take j) false (by omega) (by omega) (fun t ht => absurd ht (Nat.not_lt_zero _)) rfl)
  unfold graverlaw03_StrtabBuilds.f
  rw [speaks_ev, Option.bind_some, if_pos rfl, Option.bind_some, hj, if_pos (by omega), if_pos (by omega), Int.toNat_natCast, if_pos (by rw [hlen]; show 0 + j < _; omega)]
  rfl
end Go.Proofs.YtolgilamchadfaaX.Bu
namespace Go.Proofs.Ytolgilamchadfaa
open Go.RowKit Go.Proofs.YtolgilamchadfaaX.Bu Go.Proofs.YtolgilamchadfaaW.PrintWords
theorem builds_walk (l0 : List ByteArray) (a0 : Option Addr) (c0 : Nat) (W : World) (hsh : W.ShapedOpen Try.prog) (mc0 : l0.length ≤ c0) (rC0 : Kd.C Kd.string W a0 l0.length l0) :
    Calls Try.prog 3 #[.slice a0 l0.length c0] W fun e w' => e = .returned (.bool true) ∧ Below W.heap.size W w' := by
  obtain ⟨k, hk⟩ := (builds_ev l0).rounds
  exact graverlaw03_StrtabBuilds.calls k a0 c0 l0 true W (maxAt_of hsh) rC0 mc0 hk
end Go.Proofs.Ytolgilamchadfaa

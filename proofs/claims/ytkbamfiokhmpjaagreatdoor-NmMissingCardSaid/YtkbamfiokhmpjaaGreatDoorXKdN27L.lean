/- NmMissing's walk. -/
import Derived.Test.YtkbamfiokhmpjaaGreatDoorXKdN27K
import Derived.Test.YtkbamfiokhmpjaaGreatDoorXKdN27I
import Derived.Laws.Cover1
import Derived.BigQuiet
namespace Go.Proofs.YtkbamfiokhmpjaaGreatDoor
set_option linter.unusedVariables false
set_option linter.unusedSimpArgs false
open Go.RowKit Go.Proofs.YtkbamfiokhmpjaaGreatDoorX.Kd Go.Proofs.YtkbamfiokhmpjaaGreatDoorW.PrintWords Go.Proofs.YtkbamfiokhmpjaaGreatDoorW.PrintLast Go.Proofs.YtkbamfiokhmpjaaGreatDoorW.PrintMore

theorem cleanB_short (s : ByteArray) : (cleanB s).size ≤ 20 := by
  show (cleanL s.data.toList).toArray.size ≤ 20
  rw [List.size_toArray]
  unfold cleanL
  refine Nat.le_trans (List.length_filter_le _ _) ?_
  rw [List.length_take]; omega
theorem symbolsR_short (ys : List S62) (n : Nat) : ∀ s ∈ symbolsR ys n, s.f0.size ≤ 20 := by
  intro s hs
  unfold symbolsR at hs
  rcases List.mem_append.1 hs with hs | hs
  · rcases List.mem_append.1 hs with hs | hs
    · rw [List.mem_singleton] at hs
      subst hs
      decide
    · unfold symsK at hs
      obtain ⟨x, _, rfl⟩ := List.mem_map.1 hs
      exact cleanB_short _
  · unfold symsK at hs
    obtain ⟨x, _, rfl⟩ := List.mem_map.1 hs
    exact cleanB_short _
theorem made_short (fl : Int) (ps : List S60) (ys : List S62) (rs : List S72) : ∀ c ∈ madeSecs fl ps ys rs, ∀ s ∈ c.f10, s.f0.size ≤ 20 := by
  have hz : ∀ x : S54, x.f10 = [] → ∀ s ∈ x.f10, s.f0.size ≤ 20 := fun x h2 => by rw [h2]; exact fun s hs => by cases hs
  intro x hx
  unfold madeSecs at hx
  rcases List.mem_append.1 hx with hx | hx
  · unfold sectionsR at hx
    rcases List.mem_append.1 hx with hx | hx
    · simp only [List.mem_cons, List.not_mem_nil, or_false] at hx
      rcases hx with rfl | rfl <;> exact hz _ rfl
    · obtain ⟨y, _, rfl⟩ := List.mem_map.1 hx
      exact fun s hs => by cases hs
  · split at hx
    · unfold moreSecs at hx
      dsimp only at hx
      rcases List.mem_append.1 hx with hx | hx
      · rcases List.mem_append.1 hx with hx | hx
        · rcases List.mem_append.1 hx with hx | hx
          · rcases List.mem_append.1 hx with hx | hx
            · split at hx
              · simp only [List.mem_cons, List.not_mem_nil, or_false] at hx; subst hx; exact hz _ rfl
              · cases hx
            · simp only [List.mem_cons, List.not_mem_nil, or_false] at hx; subst hx
              exact symbolsR_short _ _
          · split at hx
            · simp only [List.mem_cons, List.not_mem_nil, or_false] at hx; subst hx; exact hz _ rfl
            · cases hx
        · split at hx
          · simp only [List.mem_cons, List.not_mem_nil, or_false] at hx; subst hx; exact hz _ rfl
          · cases hx
      · split at hx
        · simp only [List.mem_cons, List.not_mem_nil, or_false] at hx; subst hx; exact hz _ rfl
        · cases hx
    · cases hx
theorem u64_and15 (n : Int) (h0 : 0 ≤ n) (h1 : n < 16) : bits .and .u64 n 15 = n := by
  have hm : (BitVec.ofInt 64 15).toNat = 2 ^ 4 - 1 := by decide
  have key : (BitVec.ofInt 64 n &&& BitVec.ofInt 64 15).toNat = (n % ((2 ^ 64 : Nat) : Int)).toNat % 2 ^ 4 := by
    rw [BitVec.toNat_and, BitVec.toNat_ofInt, hm, Nat.and_two_pow_sub_one_eq_mod]
  show IntKind.u64.wrap ((BitVec.ofInt 64 n &&& BitVec.ofInt 64 15).toNat : Nat) = n
  rw [key, IntKind.wrap_u64]
  omega
theorem bind_p (s : S56) (h : okY s) : bindR (symT s) = Int.tdiv s.f1 16 ∧ 0 ≤ Int.tdiv s.f1 16 ∧ Int.tdiv s.f1 16 < 16 := by
  have h1 := h.1
  rw [Int.tdiv_eq_ediv_of_nonneg h1.1]
  refine ⟨?_, by omega, by omega⟩
  show bits .and .u64 (s.f1 / 16) 15 = _
  exact u64_and15 _ (by omega) (by omega)
def msK (zs : List S38) (k : Nat) : List MdD := (zs.take k).map PM
theorem msK_succ (zs : List S38) (k : Nat) (h : k < zs.length) : msK zs (k + 1) = msK zs k ++ [PM zs[k]] := by
  unfold msK
  rw [List.take_succ_eq_append_getElem h, List.map_append]; rfl
theorem msK_len (zs : List S38) (k : Nat) : (msK zs k).length ≤ k := by
  unfold msK
  rw [List.length_map, List.length_take]; omega
theorem msK_ok (zs : List S38) (k : Nat) (hk : k ≤ 4) : okMs (msK zs k) := by
  refine ⟨Nat.le_trans (msK_len zs k) hk, fun m hm => ?_⟩
  obtain ⟨z, _, rfl⟩ := List.mem_map.1 hm
  refine ⟨planM_L _ _ _ _ _, fun c hc => ⟨(planM_in _ _ _ _ _ c hc).1, fun s hs => ?_⟩⟩
  obtain ⟨x, hx, rfl⟩ := List.mem_map.1 hc
  obtain ⟨y, hy, rfl⟩ := List.mem_map.1 (show s ∈ x.f10.map symT from hs)
  have h := made_short _ _ _ _ x hx y hy
  exact Nat.le_trans h (by decide)
theorem incsM_snoc (T : S81 → Bool → Bool) (ms : List MdD) (m : MdD) : incsM T (ms ++ [m]) = seenM T m.L ++ incsM T ms := by
  unfold incsM
  rw [List.foldl_append]; rfl
theorem owns_grown {P : Program} {k : TypeId} {R : Value → Option (DataW Unit × List MemPlace)} {b n : Nat} {D : DataW Unit} {W W' : World} {row : Option Nat} (h : W.ownsMap P k R b n D) (hg : W.grownBy W' row) (hne : some b ≠ row) : W'.ownsMap P k R b n D := by
  obtain ⟨es, clock, h4, h5⟩ := h
  exact ⟨es, clock, blk_grown h4 hg hne, h5⟩
/-- What stands in NmMissing's outer loop. -/
structure OutSt (w wx : World) (gN gD gU n : Nat) (NL : List (List UInt8 × Bool)) (DL UL : List (List UInt8)) (va : Value) (ms : List MdD) : Prop where
  need : wx.ownsMap Tryz.prog 9 (plainElem (H := Unit) Tryz.prog 4) gN n (needD NL)
  defd : wx.ownsMap Tryz.prog 9 (plainElem (H := Unit) Tryz.prog 4) gD n (nameD DL)
  dbl : wx.ownsMap Tryz.prog 9 (plainElem (H := Unit) Tryz.prog 3) gU n (cntD UL)
  len : UL.length ≤ n
  mods : Kd.R kMod 48 wx w.heap.size (fun k => k ≠ gN ∧ k ≠ gD ∧ k ≠ gU) va ms
  low : Below w.heap.size w wx
  d1 : gN ≠ gD
  d2 : gN ≠ gU
  d4 : gD ≠ gU
  f1 : w.heap.size ≤ gN
  f2 : w.heap.size ≤ gD
  f3 : w.heap.size ≤ gU
theorem OutSt.below {w wx wy : World} {gN gD gU n : Nat} {NL : List (List UInt8 × Bool)} {DL UL : List (List UInt8)} {va : Value} {ms : List MdD} (h : OutSt w wx gN gD gU n NL DL UL va ms) (hb : Below wx.heap.size wx wy) : OutSt w wy gN gD gU n NL DL UL va ms :=
  { h with need := owns_below h.need hb, defd := owns_below h.defd hb, dbl := owns_below h.dbl hb, mods := Kd.R_below h.mods hb, low := h.low.trans (hb.mono h.low.size) }
theorem InSt.out {w wx : World} {gN gD gU gS g0 n : Nat} {NL : List (List UInt8 × Bool)} {DL UL SN : List (List UInt8)} {MB : Array Value} {v9 : Value} {LS : List S54} {va : Value} {ms : List MdD} (h : InSt w wx gN gD gU gS g0 n NL DL UL SN MB v9 LS va ms) : OutSt w wx gN gD gU n NL DL UL va ms :=
  ⟨h.need, h.defd, h.dbl, h.len, Kd.R_mono h.mods (fun k hk => ⟨hk.1, hk.2.1, hk.2.2.1⟩), h.low, h.d1, h.d2, h.d4, h.f1, h.f2, h.f3⟩
/-- Into the inner loops: behind the append of a model. -/
theorem OutSt.inner {w w0 w3 w5 w6 : World} {gN gD gU g0 n : Nat} {NL : List (List UInt8 × Bool)} {DL UL : List (List UInt8)} {va vb : Value} {ms ms' : List MdD} {MB : Array Value} {v9 : Value} {LS : List S54} (h : OutSt w w0 gN gD gU n NL DL UL va ms) (h03 : Below w0.heap.size w0 w3) (h35 : Below w3.heap.size w3 w5) (hbox : w3.heap[g0]? = some (.cells MB 31 (0, 0))) (hg0 : w0.heap.size ≤ g0) (hsec : Kd.R k54 54 w3 w0.heap.size (fun _ => True) v9 LS)
    (hmods : Kd.R kMod 48 w6 w.heap.size (fun k => k ≠ gN ∧ k ≠ gD ∧ k ≠ gU) vb ms') (hlow : Below w.heap.size w w6) (hg : w5.grownBy w6 va.ownBlock) :
    InSt w (w6.alloc (.map #[] 0)) gN gD gU w6.heap.size g0 n NL DL UL [] MB v9 LS vb ms' := by
  have hn := owns_lt h.need
  have hd := owns_lt h.defd
  have hu := owns_lt h.dbl
  have hown := h.mods.1
  have hlt := fun k e => Kd.R_lt h.mods k e
  have s03 := h03.size
  have s35 := h35.size
  have s56 := hg.size
  have b5 := h03.trans (h35.mono s03)
  have hg05 := blk_lt hbox
  have hb6 : Below w6.heap.size w6 (w6.alloc (.map #[] 0)) := below_alloc (Below.refl _ _) _
  exact {
    need := owns_below (owns_grown (owns_below h.need b5) hg (fun e => (hown gN e.symm).1 rfl)) hb6
    defd := owns_below (owns_grown (owns_below h.defd b5) hg (fun e => (hown gD e.symm).2.1 rfl)) hb6
    dbl := owns_below (owns_grown (owns_below h.dbl b5) hg (fun e => (hown gU e.symm).2.2 rfl)) hb6
    seen := World.ownsMap_made _ _ _ _ |>.mono (Nat.zero_le n)
    len := h.len
    box := blk_below (blk_grown (blk_below hbox h35) hg (fun e => by have := hlt g0 e.symm; omega)) hb6
    secs := Kd.R_mono (Kd.R_below (Kd.R_grown (Kd.R_below (Kd.R_mono (ok' := fun k => w0.heap.size ≤ k ∧ k < w3.heap.size) (Kd.R_bound hsec) (fun k hk => ⟨hk.2.1, hk.2.2.1⟩)) h35) hg (fun k hk e => by have := hlt k e.symm; omega)) hb6 |> fun r => Kd.R_lower r h.low.size) (fun k hk => ⟨by omega, by omega, by omega, by omega⟩)
    mods := Kd.R_mono (Kd.R_below (Kd.R_mono (Kd.R_bound hmods) (fun k hk => (⟨hk.1, hk.2.2.1⟩ : (k ≠ gN ∧ k ≠ gD ∧ k ≠ gU) ∧ k < w6.heap.size))) hb6) (fun k hk => ⟨hk.1.1, hk.1.2.1, hk.1.2.2, Nat.ne_of_lt hk.2⟩)
    low := hlow.trans (hb6.mono hlow.size)
    d1 := h.d1
    d2 := h.d2
    d3 := by omega
    d4 := h.d4
    d5 := by omega
    d6 := by omega
    e1 := by omega
    e2 := by omega
    e3 := by omega
    e4 := by omega
    f1 := h.f1
    f2 := h.f2
    f3 := h.f3
    f4 := hlow.size }
def DoneP (P : Program) (ops : Array Oper) (Q : Exit → Act → World → Prop) (rest : List Oper) (o : Oper) (a : Act) (w : World) (left : Lit → Bool) (cnt : Nat) : Prop := cnt = 0 → (∀ kl, left kl = false) → wpList P ops Q rest (a.put o.dst (.tuple #[.bool false])) w
def MoreP {α β : Type} (P : Program) (ops : Array Oper) (Q : Exit → Act → World → Prop) (rest : List Oper) (o : Oper) (a : Act) (w : World) (k : TypeId) (R : Value → Option (DataW Unit × List MemPlace)) (mkK : α → Value) (mkV : β → Value) (b r n : Nat) (D : DataW Unit) (left : Lit → Bool) (cnt : Nat) : Prop :=
  ∀ (x : α) (c : β) (kl : Lit) (y : DataW Unit × List MemPlace) (w' : World) (cnt' : Nat), keyOf P k (mkK x) = some kl → left kl = true → R (mkV c) = some y → (∀ zd, D.atKey kl zd = y.1) → w'.ranges P k R b r n D (fun z => left z && !z.sameKey kl) cnt' → cnt' < cnt →
      w.grownBy w' (some r) → w'.heap.size = w.heap.size → (Instr.entry (.pointer (some ⟨r, 0, none⟩))).run P w' = .ok (.tuple #[mkK x, mkV c]) w' → wpList P ops Q rest (a.put o.dst (.tuple #[.bool true, mkK x, mkV c])) w'
theorem next_w {α β : Type} {P : Program} (w : World) {ops : Array Oper} {rest : List Oper} {o : Oper} {a : Act} {Q : Exit → Act → World → Prop} (hg : o.guard = none) (it : Operand) (hop : o.op = Op.next it false) (k : TypeId) (K : Maps.Keyed P k) (R : Value → Option (DataW Unit × List MemPlace)) (mkK : α → Value) (mkV : β → Value)
    (invK : ∀ key kl, keyOf P k key = some kl → ∃ x, key = mkK x) (invV : ∀ v y, R v = some y → ∃ c, v = mkV c) (b r n : Nat) (D : DataW Unit) (left : Lit → Bool) (cnt : Nat)
    (hit : a.eval it = .pointer (some ⟨r, 0, none⟩)) (h : w.ranges P k R b r n D left cnt)
    (hDone : DoneP P ops Q rest o a w left cnt) (hMore : MoreP P ops Q rest o a w k R mkK mkV b r n D left cnt) :
    wpList P ops Q (o :: rest) a w :=
  wpList_next_ranges w hg it hop k K R mkK mkV invK invV b r n D left cnt hit h hDone hMore
theorem val_mem {s : List UInt8} {l : List (List UInt8 × Bool)} (h : valOf s l = true) : s ∈ l.map (·.1) := by
  unfold valOf at h
  obtain ⟨p, hp, h2⟩ := List.any_eq_true.1 h
  rw [Bool.and_eq_true, decide_eq_true_eq] at h2
  exact List.mem_map.2 ⟨p, hp, h2.1⟩
set_option maxRecDepth 100000 in
theorem bool_elem {v : Value} {y : DataW Unit × List MemPlace} (h : plainElem (H := Unit) Tryz.prog 4 v = some y) : ∃ b, v = .bool b ∧ y.1 = .lit (.bool b) := by
  unfold plainElem at h
  rw [Tryz.underlying4] at h
  cases v <;> simp at h
  subst h
  exact ⟨_, rfl, rfl⟩
set_option maxRecDepth 100000 in
theorem key_str {x : List UInt8} {kl : Lit} (h : keyOf Tryz.prog 9 (encStr x) = some kl) : kl = .string x ∧ x.length ≤ maxLen := by
  obtain ⟨x', h1, h2, h3⟩ := Maps.keyOf_str Tryz.underlying9 h
  have he : x = x' := by
    unfold encStr at h1
    injection h1 with h1
    injection h1 with h1
    simpa using congrArg Array.toList h1
  subst he
  exact ⟨h2, h3⟩
theorem cnt_step (P : List UInt8 → Bool) (left : Lit → Bool) (x : List UInt8) (hx : left (.string x) = true) : ∀ (K0 : List (List UInt8)), K0.Nodup → x ∈ K0 →
    K0.countP (fun s => left (.string s) && P s) = K0.countP (fun s => (left (.string s) && !(Lit.string s).sameKey (.string x)) && P s) + (if P x = true then 1 else 0)
  | [], _, h => by cases h
  | y :: r, hn, h => by
    have hn' := List.nodup_cons.1 hn
    rw [List.countP_cons, List.countP_cons]
    have hsk : ∀ s : List UInt8, s ≠ x → (Lit.string s).sameKey (.string x) = false := fun s hs => Maps.sameKey_ne (fun e => hs (by injection e))
    have hsx : (Lit.string x).sameKey (.string x) = true := by show (x == x) = true; simp
    by_cases hy : y = x
    · subst hy
      have e : r.countP (fun s => left (.string s) && P s) = r.countP (fun s => (left (.string s) && !(Lit.string s).sameKey (.string y)) && P s) := by
        refine List.countP_congr (fun s hs => ?_)
        rw [hsk s (fun e => hn'.1 (e ▸ hs))]; simp
      rw [e, hx, hsx]
      simp
    · have hm : x ∈ r := by rcases List.mem_cons.1 h with h | h; exact absurd h.symm hy; exact h
      rw [cnt_step P left x hx r hn'.2 hm, hsk y hy]
      simp
      omega
theorem cnt_perm (P : List UInt8 → Bool) (K0 ks : List (List UInt8)) (hn : K0.Nodup) (hp : ks.Pairwise (· < ·)) (h : ∀ s, s ∈ ks ↔ s ∈ K0 ∧ P s = true) : K0.countP P = ks.length := by
  rw [List.countP_eq_length_filter]
  refine List.Perm.length_eq ((List.perm_ext_iff_of_nodup (hn.filter _) (hp.imp fun {a b} hab he => by rw [he] at hab; exact List.lt_irrefl _ hab)).2 fun s => ?_)
  rw [List.mem_filter, h]
set_option maxRecDepth 100000 in
set_option maxHeartbeats 32000000 in
theorem missing_walk (zs : List S38) (hzs : ∀ z ∈ zs, okP z) (A : Option Addr) (ca : Nat) (w : World) (hC : Kd.C k38 w A zs.length zs) (ht : Tabs w) :
    Calls Tryz.prog 3 #[.slice A zs.length ca] w fun e w' => e = .returned (.bool true) ∧ Below w.heap.size w w' := by
  have HC := Lib.hid hC
  have HZS := Lib.hid hzs
  have HT := Lib.hid ht
  clear hC hzs ht
  go_enter Tryz.func3, Tryz.ntmps3
  have hmm := @run_makeMap Tryz.prog
  go_upto_region 5 with (first | (go_at_call 4; refine (speaks_any _ HT.out).mono ?_; rintro e w1 ⟨rfl, hb1⟩; have HB1 := Lib.hid hb1; clear hb1))
  obtain ⟨wM, hwM⟩ : ∃ wM, wM = ((w1.alloc (.map #[] 0)).alloc (.map #[] 0)).alloc (.map #[] 0) := ⟨_, rfl⟩
  obtain ⟨gN, hgN⟩ : ∃ gN, gN = w1.heap.size := ⟨_, rfl⟩
  obtain ⟨gD, hgD⟩ : ∃ gD, gD = w1.heap.size + 1 := ⟨_, rfl⟩
  obtain ⟨gU, hgU⟩ : ∃ gU, gU = w1.heap.size + 1 + 1 := ⟨_, rfl⟩
  have HOS := Lib.hid (show OutSt w wM gN gD gU 0 [] [] [] (.slice none 0 0) [] from by
    have a1 := World.ownsMap_made w1 Tryz.prog 9 (plainElem (H := Unit) Tryz.prog 4)
    have a2 := World.ownsMap_made (w1.alloc (.map #[] 0)) Tryz.prog 9 (plainElem (H := Unit) Tryz.prog 4)
    have a3 := World.ownsMap_made ((w1.alloc (.map #[] 0)).alloc (.map #[] 0)) Tryz.prog 9 (plainElem (H := Unit) Tryz.prog 3)
    rw [World.size_alloc] at a2
    rw [World.size_alloc, World.size_alloc] at a3
    have hs := HB1.out.size
    exact {
      need := by rw [hwM, hgN]; exact owns_below a1 (below_alloc (below_alloc (Below.refl _ _) _) _)
      defd := by rw [hwM, hgD]; exact owns_below a2 (below_alloc (Below.refl _ _) _)
      dbl := by rw [hwM, hgU]; exact a3
      len := Nat.le_refl _
      mods := Kd.R_nil _ _ _ _ _
      low := by rw [hwM]; exact below_alloc (below_alloc (below_alloc HB1.out _) _) _
      d1 := by omega
      d2 := by omega
      d4 := by omega
      f1 := by omega
      f2 := by omega
      f3 := by omega })
  have HTT := Lib.hid HB1.out
  rw [← hwM, ← hgU, ← hgD, ← hgN]
  clear hwM hgN hgD hgU HB1
  go_wp2
  go_loopw [3, 7] (fun va i wr => ∃ k : Nat, k ≤ zs.length ∧ k ≤ 4 ∧ i = .int .i64 k ∧ Hid (OutSt w wr gN gD gU (1000 * k) (fA ndStep [] (msK zs k)) (fA dfStep [] (msK zs k)) (incsM tStrong (msK zs k)) va (msK zs k))) (fun _ i _ => 4 - (intOf i).toNat)
  case atStart => exact ⟨0, Nat.zero_le _, Nat.zero_le _, rfl, HOS⟩
  case round =>
    obtain ⟨k, hk1, hk4, rfl, HR⟩ := hrel
    clear HOS
    by_cases hlt : k < zs.length ∧ k < 4
    · skip
      obtain ⟨hl1, hl2⟩ := hlt
      obtain ⟨ad, A1, c1, A2, c2, A3, c3, A4, c4, hA, x0, x1, x2, x3, x4, g1, g2, g3, g4⟩ := at_Plan HC.out k hl1 hl1
      subst hA
      have hB := HR.out.low
      replace x0 := (hB.cell (World.block_lt_of_cell? w _ x0)).trans x0
      replace x1 := (hB.cell (World.block_lt_of_cell? w _ x1)).trans x1
      replace x2 := (hB.cell (World.block_lt_of_cell? w _ x2)).trans x2
      replace x3 := (hB.cell (World.block_lt_of_cell? w _ x3)).trans x3
      replace x4 := (hB.cell (World.block_lt_of_cell? w _ x4)).trans x4
      have HMS := Lib.hid (msK_succ zs k hl1)
      have hz := HZS.out zs[k] (List.getElem_mem hl1)
      obtain ⟨z, hze⟩ : ∃ z, z = zs[k] := ⟨_, rfl⟩
      rw [← hze] at x0 x1 x2 x3 x4 g1 g2 g3 g4 HMS hz
      have HMD := Lib.hid (made_b z hz A1 A2 A3 A4 c1 c2 c3 c4 wr (Kd.C_below g1 hB) (Kd.C_below g2 hB) (Kd.C_below g3 hB) (Kd.C_below g4 hB))
      have HOKS := Lib.hid (made_ok z.f0 z.f1 z.f2 z.f3)
      have HSHT := Lib.hid (made_short z.f0 z.f1 z.f2 z.f3)
      have HSIN := Lib.hid (madeSecs_in z.f0 z.f1 z.f2 z.f3)
      have HLL := Lib.hid (madeSecs_len z.f0 z.f1 z.f2 z.f3)
      have HTB := Lib.hid (told_b z)
      have HPL := Lib.hid (show (PM z).L = (madeSecs z.f0 z.f1 z.f2 z.f3).map secT from rfl)
      obtain ⟨LS, hLS⟩ : ∃ LS, LS = madeSecs z.f0 z.f1 z.f2 z.f3 := ⟨_, rfl⟩
      rw [← hLS] at HMD HOKS HSHT HSIN HLL HTB HPL
      have HL1 := Lib.hid hl1
      have hk3 : k < 4 := hl2
      have km : (k : Int) < (zs.length : Int) := by omega
      have km4 : (k : Int) < 4 := by omega
      have km0 : (0 : Int) ≤ (k : Int) := by omega
      have kd4 : decide ((k : Int) < 4) = true := by rw [decide_eq_true_eq]; omega
      have kd5 : decide (k < 4) = true := by rw [decide_eq_true_eq]; omega
      have kw : IntKind.i64.wrap ((k : Int) + 1) = ((k + 1 : Nat) : Int) := by rw [IntKind.wrap_i64]; omega
      clear hze hz hLS g1 g2 g3 g4 hB hl1
      go_upto_region 9 with (first
        | (go_at_call 5; refine HMD.out.mono ?_; rintro e w2 ⟨A9, c9, A10, c10, rfl, hR9, hC10, hB2⟩; have HR9 := Lib.hid hR9; have HC10 := Lib.hid hC10; have HB2 := Lib.hid hB2; clear hR9 hC10 hB2))
      clear x0 x1 x2 x3 x4 HMD
      obtain ⟨w3, hw3⟩ : ∃ w3, w3 = w2.alloc (.cells #[.bool (flagB z.f0 2), .bool (flagB z.f0 1), .int .u8 3, .int .u8 0, .int .u64 1, .int .u64 243, .int .u64 16, .int .u64 5, .int .u64 1, .slice A9 LS.length c9, .slice A10 (segsR z.f4).length c10] 31) := ⟨_, rfl⟩
      obtain ⟨g0, hg0⟩ : ∃ g0, g0 = w2.heap.size := ⟨_, rfl⟩
      have HBX := Lib.hid (show w3.heap[g0]? = some (.cells #[.bool (flagB z.f0 2), .bool (flagB z.f0 1), .int .u8 3, .int .u8 0, .int .u64 1, .int .u64 243, .int .u64 16, .int .u64 5, .int .u64 1, .slice A9 LS.length c9, .slice A10 (segsR z.f4).length c10] 31 (0, 0)) by rw [hw3, hg0]; exact blk_new w2 _)
      have HB3 := Lib.hid (show Below wr.heap.size wr w3 by rw [hw3]; exact below_alloc HB2.out _)
      have HR3 := Lib.hid (show Kd.R k54 54 w3 wr.heap.size (fun _ => True) (.slice A9 LS.length c9) LS by rw [hw3]; exact Kd.R_alloc HR9.out _)
      have HC3 := Lib.hid (show Kd.C k76 w3 A10 (segsR z.f4).length (segsR z.f4) by rw [hw3]; exact Kd.C_alloc HC10.out _)
      have HG0 := Lib.hid (show wr.heap.size ≤ g0 by rw [hg0]; exact HB2.out.size)
      rw [← hw3, ← hg0]
      clear hw3 hg0 HR9 HC10 HB2
      have m0 := (blk_cell (HBX.out) 0).trans rfl; have m1 := (blk_cell (HBX.out) 1).trans rfl; have m2 := (blk_cell (HBX.out) 2).trans rfl; have m3 := (blk_cell (HBX.out) 3).trans rfl; have m4 := (blk_cell (HBX.out) 4).trans rfl; have m5 := (blk_cell (HBX.out) 5).trans rfl; have m6 := (blk_cell (HBX.out) 6).trans rfl; have m7 := (blk_cell (HBX.out) 7).trans rfl; have m8 := (blk_cell (HBX.out) 8).trans rfl; have m9 := (blk_cell (HBX.out) 9).trans rfl; have m10 := (blk_cell (HBX.out) 10).trans rfl
      obtain ⟨A9', c9', hA9, _, hC9⟩ := Kd.R_reads HR3.out
      injection hA9 with i1 i2 i3
      subst i1 i3
      have HTD := Lib.hid (HTB.out A9 A10 c9 c10 w3 hC9 HC3.out)
      obtain ⟨AA, cA, rfl⟩ := Kd.R_slice HR.out.mods
      have hml : (msK zs k).length ≤ 4 := Nat.le_trans (msK_len zs k) (by omega)
      clear hC9 HTB
      go_upto_region 10 with (first
        | (go_at_call 6; refine HTD.out.mono ?_; rintro e w5 ⟨v9, v10, rfl, hR5, hD5, hB5⟩; obtain ⟨B9, d9, rfl⟩ := Kd.R_slice hR5; obtain ⟨B10, d10, rfl⟩ := Kd.R_slice hD5; have HM5 := Lib.hid (kMod_mkM w5 w.heap.size (fun k => w3.heap.size ≤ k) (PM z) (Kd.R_lower (Kd.R_mono (Kd.R_bound hR5) (fun k hk => hk.2.1)) (Nat.le_trans HR.out.low.size HB3.out.size)) (Kd.R_lower (Kd.R_mono (Kd.R_bound hD5) (fun k hk => hk.2.1)) (Nat.le_trans HR.out.low.size HB3.out.size))); have HB5 := Lib.hid hB5; have HO5 := Lib.hid (HR.out.below (HB3.out.trans (hB5.mono HB3.out.size))); clear hR5 hD5 hB5)
        | (at_builtin; refine Kd.R_append kMod (w0 := w) w.heap.size rfl (.tmp 44) (.tmp 47) 24 48 _ _ rfl Tryz.underlying24 infoMod rfl (by decide) (by omega) (.slice AA (msK zs k).length cA) (msK zs k) (PM z) _ (fun k => k ≠ gN ∧ k ≠ gD ∧ k ≠ gU) (fun k => w3.heap.size ≤ k) rfl (by first | rfl | (rw [World.size_alloc]; rfl) | (simp; done)) HM5.out ?aK ?aF HO5.out.mods HO5.out.low HO5.out.low.size (by omega) ?_))
      case aK =>
        intro b hb
        have h1 := owns_lt HR.out.need
        have h2 := owns_lt HR.out.defd
        have h3 := owns_lt HR.out.dbl
        have h4 := HB3.out.size
        exact ⟨⟨by omega, by omega, by omega⟩, fun e => by have := Kd.R_lt HR.out.mods b e.symm; omega⟩
      case aF =>
        intro b hb
        have h1 := owns_lt HO5.out.need
        have h2 := owns_lt HO5.out.defd
        have h3 := owns_lt HO5.out.dbl
        exact ⟨by omega, by omega, by omega⟩
      intro v6 w6 hR6 hB6 hG6 hat6
      have HIN := Lib.hid (HR.out.inner HB3.out HB5.out HBX.out HG0.out HR3.out hR6 hB6 hG6)
      clear m0 m1 m2 m3 m4 m5 m6 m7 m8 m9 m10 hR6 hB6 hG6 hat6 HTD HM5 HB5 HO5 HC3 HR3 HBX HB3 HG0 hml HR
      go_upto_region 11 with (fail)
      obtain ⟨w7, hw7⟩ : ∃ w7, w7 = w6.alloc (.map #[] 0) := ⟨_, rfl⟩
      obtain ⟨gS, hgS⟩ : ∃ gS, gS = w6.heap.size := ⟨_, rfl⟩
      obtain ⟨NL0, hNL⟩ : ∃ NL0, NL0 = fA ndStep [] (msK zs k) := ⟨_, rfl⟩
      obtain ⟨DL0, hDL⟩ : ∃ DL0, DL0 = fA dfStep [] (msK zs k) := ⟨_, rfl⟩
      obtain ⟨UL0, hUL⟩ : ∃ UL0, UL0 = incsM tStrong (msK zs k) := ⟨_, rfl⟩
      obtain ⟨ms1, hms1⟩ : ∃ ms1, ms1 = msK zs k ++ [PM z] := ⟨_, rfl⟩
      rw [← hw7, ← hgS, ← hNL, ← hDL, ← hUL, ← hms1] at HIN
      rw [← hw7, ← hgS]
      have HE1 := Lib.hid (And.intro hNL (And.intro hDL (And.intro hUL hms1)))
      clear hw7 hgS hNL hDL hUL hms1
      go_wp2
      go_loopw [10] (fun i wx => ∃ k2 : Nat, k2 ≤ LS.length ∧ i = .int .i64 k2 ∧ Hid (InSt w wx gN gD gU gS g0 (1000 * k + 60 * k2) (fM ndStep NL0 ((PM z).L.take k2)) (fM dfStep DL0 ((PM z).L.take k2)) (seenM tStrong ((PM z).L.take k2) ++ UL0) (seenM tStrong ((PM z).L.take k2)) #[.bool (flagB z.f0 2), .bool (flagB z.f0 1), .int .u8 3, .int .u8 0, .int .u64 1, .int .u64 243, .int .u64 16, .int .u64 5, .int .u64 1, .slice A9 LS.length c9, .slice A10 (segsR z.f4).length c10] (.slice A9 LS.length c9) LS v6 ms1)) (fun i _ => LS.length - (intOf i).toNat)
      case atStart => exact ⟨0, Nat.zero_le _, rfl, HIN⟩
      case round =>
        obtain ⟨k2, hk2, rfl, HR2⟩ := hrel
        clear HIN
        have q9 := (blk_cell HR2.out.box 9).trans rfl
        by_cases hlt2 : k2 < LS.length
        · have HL2 := Lib.hid hlt2
          have hk13 : k2 < 13 := Nat.lt_of_lt_of_le hlt2 HLL.out
          have hl2L : k2 < (PM z).L.length := by rw [HPL.out, List.length_map]; exact hlt2
          have HF1 := Lib.hid (fM_succ ndStep NL0 (PM z).L k2 hl2L)
          have HF2 := Lib.hid (fM_succ dfStep DL0 (PM z).L k2 hl2L)
          have HF3 := Lib.hid (seenM_succ tStrong (PM z).L k2 hl2L)
          have hcc : (PM z).L[k2] = secT LS[k2] := by simp only [HPL.out, List.getElem_map]; rfl
          have HCS := Lib.hid (HSIN.out LS[k2] (List.getElem_mem hlt2)).1
          have HCO := Lib.hid (HOKS.out LS[k2] (List.getElem_mem hlt2)).2
          have HCH := Lib.hid (HSHT.out LS[k2] (List.getElem_mem hlt2))
          obtain ⟨c0, hc0⟩ : ∃ c0, c0 = LS[k2] := ⟨_, rfl⟩
          rw [hcc, ← hc0] at HF1 HF2 HF3
          rw [← hc0] at HCS HCO HCH
          have HC0 := Lib.hid hc0
          obtain ⟨NL1, hNL⟩ : ∃ NL1, NL1 = fM ndStep NL0 ((PM z).L.take k2) := ⟨_, rfl⟩
          obtain ⟨DL1, hDL⟩ : ∃ DL1, DL1 = fM dfStep DL0 ((PM z).L.take k2) := ⟨_, rfl⟩
          obtain ⟨SN1, hSN⟩ : ∃ SN1, SN1 = seenM tStrong ((PM z).L.take k2) := ⟨_, rfl⟩
          rw [← hNL, ← hDL, ← hSN] at HR2
          rw [← hNL] at HF1
          rw [← hDL] at HF2
          rw [← hSN] at HF3
          have hcl := HCS.out
          have km2 : (k2 : Int) < (LS.length : Int) := by omega
          have km20 : (0 : Int) ≤ (k2 : Int) := by omega
          have kw2 : IntKind.i64.wrap ((k2 : Int) + 1) = ((k2 + 1 : Nat) : Int) := by rw [IntKind.wrap_i64]; omega
          clear hc0 hNL hDL hSN hcc hl2L
          go_wp2
          clear q9
          go_loopw [11] (fun i wx => ∃ k3 : Nat, 1 ≤ k3 ∧ k3 ≤ 17 ∧ (k3 = 1 ∨ k3 ≤ c0.f10.length) ∧ i = .int .i64 k3 ∧ Hid (InSt w wx gN gD gU gS g0 (1000 * k + 60 * k2 + 3 * k3) (fK ndStep NL1 (secT c0) k3) (fK dfStep DL1 (secT c0) k3) (fK (seenStep tStrong) SN1 (secT c0) k3 ++ UL0) (fK (seenStep tStrong) SN1 (secT c0) k3) #[.bool (flagB z.f0 2), .bool (flagB z.f0 1), .int .u8 3, .int .u8 0, .int .u64 1, .int .u64 243, .int .u64 16, .int .u64 5, .int .u64 1, .slice A9 LS.length c9, .slice A10 (segsR z.f4).length c10] (.slice A9 LS.length c9) LS v6 ms1)) (fun i _ => 18 - (intOf i).toNat)
          case atStart => exact ⟨1, Nat.le_refl _, by decide, .inl rfl, rfl, Lib.hid (by rw [fK_one, fK_one, fK_one]; exact HR2.out.more (by omega))⟩
          case round =>
            obtain ⟨k3, hk31, hk317, hk3e, rfl, HR3⟩ := hrel
            clear HR2
            have q9 := (blk_cell HR3.out.box 9).trans rfl
            obtain ⟨A9x, c9x, hA9x, _, hC9x⟩ := Kd.R_reads HR3.out.secs
            injection hA9x with i1 i2 i3
            subst i1 i3
            obtain ⟨ad2, B10, e10, B11, e11, B12, e12, hA, hx0, hx1, hx2, hx3, hx4, hx5, hx6, hx7, hx8, hx9, hx10, hx11, hx12, le10, hi10, _⟩ := at_T54 hC9x (k2 : Int) (by omega) (by omega)
            subst hA
            rw [Int.toNat_natCast] at hx10
            have hce : rd_T54 LS (k2 : Int) = c0 := by rw [HC0.out]; unfold rd_T54; rw [Int.toNat_natCast]; simp [List.getD, HL2.out]; rfl
            rw [hce] at hx10 le10 hi10
            clear hce hC9x hx0 hx1 hx2 hx3 hx4 hx5 hx6 hx7 hx8 hx9 hx11 hx12
            by_cases hlt3 : k3 < c0.f10.length
            · as_aux_lemma =>
                obtain ⟨ad3, hA, hy0, hy1, hy2, hy3, hy4, hy5, hy6⟩ := at_T56 hi10 (k3 : Int) (by omega) (by omega)
                subst hA
                rw [Int.toNat_natCast] at hy0 hy1 hy2 hy3 hy4 hy5 hy6
                have HSX := Lib.hid (show rd_T56 c0.f10 (k3 : Int) = c0.f10[k3] by unfold rd_T56; rw [Int.toNat_natCast]; simp [List.getD, hlt3])
                obtain ⟨s, hse⟩ : ∃ s, s = rd_T56 c0.f10 (k3 : Int) := ⟨_, rfl⟩
                rw [← hse] at HSX hy0 hy1 hy2 hy3 hy4 hy5 hy6
                have hsy : (secT c0).f10[k3]'(by show k3 < (c0.f10.map symT).length; rw [List.length_map]; exact hlt3) = symT s := by
                  rw [HSX.out]; exact List.getElem_map _
                have hlc : k3 < (secT c0).f10.length := by show k3 < (c0.f10.map symT).length; rw [List.length_map]; exact hlt3
                have HN1 := Lib.hid (show fK ndStep NL1 (secT c0) (k3 + 1) = ndStep (fK ndStep NL1 (secT c0) k3) (symT s) by rw [fK_succ _ _ _ k3 hlc hk31, hsy])
                have HD1 := Lib.hid (show fK dfStep DL1 (secT c0) (k3 + 1) = dfStep (fK dfStep DL1 (secT c0) k3) (symT s) by rw [fK_succ _ _ _ k3 hlc hk31, hsy])
                have HS1 := Lib.hid (show fK (seenStep tStrong) SN1 (secT c0) (k3 + 1) = seenStep tStrong (fK (seenStep tStrong) SN1 (secT c0) k3) (symT s) by rw [fK_succ _ _ _ k3 hlc hk31, hsy])
                have hok := HCO.out c0.f10[k3] (List.getElem_mem hlt3)
                have hsh := HCH.out c0.f10[k3] (List.getElem_mem hlt3)
                rw [← HSX.out] at hok hsh
                have hsz : s.f0.size ≤ maxLen := by unfold maxLen; omega
                obtain ⟨hbp1, hbp2, hbp3⟩ := bind_p s hok
                have HL3 := Lib.hid hlt3
                have km3 : (k3 : Int) < (c0.f10.length : Int) := by omega
                have km30 : (0 : Int) ≤ (k3 : Int) := by omega
                have kw3 : IntKind.i64.wrap ((k3 : Int) + 1) = ((k3 + 1 : Nat) : Int) := by rw [IntKind.wrap_i64]; omega
                clear hse hsy hlc hok hsh
                go_upto_region 18 with (fail)
                obtain ⟨wY, hwY⟩ : ∃ wY, wY = wr.alloc (.cells #[.string s.f0, .int .u64 s.f1, .int .u64 s.f2, .int .u64 s.f3, .int .u64 s.f4, .int .u64 s.f5, .bool s.f6] 56) := ⟨_, rfl⟩
                obtain ⟨gY, hgY⟩ : ∃ gY, gY = wr.heap.size := ⟨_, rfl⟩
                have HY0 := Lib.hid (show wY.heap[gY]? = some (.cells #[.string s.f0, .int .u64 s.f1, .int .u64 s.f2, .int .u64 s.f3, .int .u64 s.f4, .int .u64 s.f5, .bool s.f6] 56 (0, 0)) by rw [hwY, hgY]; exact blk_new wr _)
                have HRY := Lib.hid (show InSt w wY gN gD gU gS g0 (1000 * k + 60 * k2 + 3 * k3) _ _ _ _ _ _ _ _ _ by rw [hwY]; exact HR3.out.below (below_alloc (Below.refl _ _) _))
                have HGY := Lib.hid (show gY ≠ gN ∧ gY ≠ gD ∧ gY ≠ gU ∧ gY ≠ gS from by
                  rw [hgY]; exact ⟨Nat.ne_of_gt (owns_lt HR3.out.need), Nat.ne_of_gt (owns_lt HR3.out.defd), Nat.ne_of_gt (owns_lt HR3.out.dbl), Nat.ne_of_gt (owns_lt HR3.out.seen)⟩)
                rw [← hwY, ← hgY]
                clear hwY hgY hy0 hy1 hy2 hy3 hy4 hy5 hy6 hx10 q9 HR3 hi10 le10
                obtain ⟨NLk, hNLk⟩ : ∃ NLk, NLk = fK ndStep NL1 (secT c0) k3 := ⟨_, rfl⟩
                obtain ⟨DLk, hDLk⟩ : ∃ DLk, DLk = fK dfStep DL1 (secT c0) k3 := ⟨_, rfl⟩
                obtain ⟨SNk, hSNk⟩ : ∃ SNk, SNk = fK (seenStep tStrong) SN1 (secT c0) k3 := ⟨_, rfl⟩
                rw [← hNLk] at HN1
                rw [← hDLk] at HD1
                rw [← hSNk] at HS1
                rw [← hNLk, ← hDLk, ← hSNk] at HRY
                clear hNLk hDLk hSNk
                obtain ⟨bv, hbv⟩ : ∃ bv, bv = Int.tdiv s.f1 16 := ⟨_, rfl⟩
                obtain ⟨nb, hnb⟩ : ∃ nb, nb = s.f0.toList.isEmpty := ⟨_, rfl⟩
                obtain ⟨z0, hz0⟩ : ∃ z0, z0 = (bv == 0) := ⟨_, rfl⟩
                obtain ⟨b2, hb2⟩ : ∃ b2, b2 = (bv != 2) := ⟨_, rfl⟩
                obtain ⟨z5, hz5⟩ : ∃ z5, z5 = (s.f5 == 0) := ⟨_, rfl⟩
                obtain ⟨vq, hvq⟩ : ∃ vq, vq = valOf s.f0.data.toList NLk := ⟨_, rfl⟩
                obtain ⟨mm, hmm2⟩ : ∃ mm, mm = decide (s.f0.data.toList ∈ SNk) := ⟨_, rfl⟩
                have hel : elig (symT s) = ((!nb) && !z0) := by unfold elig; rw [hbp1, ← hbv, hnb, hz0]; rfl
                have hun : undefB (symT s) = ((!s.f6) && z5) := by unfold undefB; rw [hz5]; rfl
                have HND := Lib.hid (show ndStep NLk (symT s) = if (((!nb) && !z0) && ((!s.f6) && z5)) = true then (s.f0.data.toList, b2) :: NLk else NLk by
                  unfold ndStep; rw [hel, hun, hbp1, ← hbv, hb2]; rfl)
                have HDF := Lib.hid (show dfStep DLk (symT s) = if (((!nb) && !z0) && !((!s.f6) && z5)) = true then s.f0.data.toList :: DLk else DLk by
                  unfold dfStep; rw [hel, hun]; rfl)
                have HSE := Lib.hid (show seenStep tStrong SNk (symT s) = if (((!nb) && !z0) && !mm && (!((!s.f6) && z5) && b2)) = true then s.f0.data.toList :: SNk else SNk by
                  unfold seenStep takes tStrong
                  have h1 : ((!(symT s).f0.toList.isEmpty) && (bindR (symT s) != 0)) = ((!nb) && !z0) := hel
                  rw [h1, hun, hbp1, ← hbv, hb2, hmm2]; rfl)
                have ht2 : IntKind.u64.wrap bv = bv := by rw [hbv, IntKind.wrap_u64]; omega
                have ht3 : Int.tmod bv 16 = bv := by rw [hbv]; exact Int.tmod_eq_of_lt hbp2 hbp3
                have ht1 : Int.tdiv s.f1 16 = bv := hbv.symm
                replace hnb := hnb.symm
                replace hz0 := hz0.symm
                replace hb2 := hb2.symm
                replace hz5 := hz5.symm
                have HVQ := Lib.hid hvq
                have HMM := Lib.hid hmm2
                have y0 := (blk_cell HY0.out 0).trans rfl
                have y1 := (blk_cell HY0.out 1).trans rfl
                have y5 := (blk_cell HY0.out 5).trans rfl
                have y6 := (blk_cell HY0.out 6).trans rfl
                clear hbp1 hbp2 hbp3 hel hun hbv hvq hmm2
                have hnm : 1000 * k + 60 * k2 + 3 * k3 < maxLen := by unfold maxLen; omega
                have hnm1 : 1000 * k + 60 * k2 + 3 * k3 + 1 < maxLen := by unfold maxLen; omega
                obtain ⟨b6, hb6⟩ : ∃ b6, b6 = s.f6 := ⟨_, rfl⟩
                rw [← hb6] at HND HDF HSE
                replace hb6 := hb6.symm
                cases nb
                · cases z0
                  · cases b6
                    · cases z5
                      · as_aux_lemma =>
                          skip
                          obtain ⟨W3, hrun3, hI3, hg3⟩ := HRY.out.defs s.f0 hsz hnm
                          have HI3 := Lib.hid hI3
                          have HY3 := Lib.hid (blk_grown HY0.out hg3 (inj_ne HGY.out.2.1))
                          have y30 := (blk_cell HY3.out 0).trans rfl
                          clear hI3 hg3
                          cases b2
                          · have q1 : ndStep NLk (symT s) = NLk := by rw [HND.out]; rfl
                            have q2 : dfStep DLk (symT s) = s.f0.data.toList :: DLk := by rw [HDF.out]; rfl
                            have q3 : seenStep tStrong SNk (symT s) = SNk := by rw [HSE.out]; first | rfl | (cases mm <;> rfl)
                            have HQ := Lib.hid (And.intro q1 (And.intro q2 q3))
                            clear q1 q2 q3
                            go_wp2
                            exact ⟨⟨k3 + 1, by omega, by omega, .inr HL3.out, rfl, Lib.hid (by rw [HN1.out, HD1.out, HS1.out, HQ.out.1, HQ.out.2.1, HQ.out.2.2]; exact HI3.out.more (by omega))⟩, by have := HL3.out; simp only [intOf]; omega⟩
                          · have hlk := name_look HI3.out.seen s.f0 hsz
                            rw [← HMM.out] at hlk
                            cases mm
                            · obtain ⟨W4, hrun4, hI4, hg4⟩ := HI3.out.seens s.f0 hsz hnm1
                              have HI4 := Lib.hid hI4
                              have HY4 := Lib.hid (blk_grown HY3.out hg4 (inj_ne HGY.out.2.2.2))
                              have y40 := (blk_cell HY4.out 0).trans rfl
                              have hlc := cnt_look HI4.out.dbl s.f0 hsz
                              obtain ⟨cn, hcn⟩ : ∃ cn : Nat, cn = (SNk ++ UL0).count s.f0.data.toList := ⟨_, rfl⟩
                              have hcb : cn ≤ 10000 := by rw [hcn]; refine Nat.le_trans List.count_le_length ?_; have := HI4.out.len; omega
                              rw [← hcn] at hlc
                              obtain ⟨W5, hrun5, hI5, hg5⟩ := HI4.out.dbls s.f0 hsz (by omega) ((cn : Int) + 1) (by rw [hcn])
                              have HI5 := Lib.hid hI5
                              have cw : IntKind.i64.wrap ((cn : Int) + 1) = (cn : Int) + 1 := by rw [IntKind.wrap_i64]; omega
                              clear hI4 hg4 hcn hcb hI5 hg5
                              have q1 : ndStep NLk (symT s) = NLk := by rw [HND.out]; rfl
                              have q2 : dfStep DLk (symT s) = s.f0.data.toList :: DLk := by rw [HDF.out]; rfl
                              have q3 : seenStep tStrong SNk (symT s) = s.f0.data.toList :: SNk := by rw [HSE.out]; first | rfl | (cases mm <;> rfl)
                              have HQ := Lib.hid (And.intro q1 (And.intro q2 q3))
                              clear q1 q2 q3
                              go_wp2
                              exact ⟨⟨k3 + 1, by omega, by omega, .inr HL3.out, rfl, Lib.hid (by rw [HN1.out, HD1.out, HS1.out, HQ.out.1, HQ.out.2.1, HQ.out.2.2]; exact HI5.out.more (by omega))⟩, by have := HL3.out; simp only [intOf]; omega⟩
                            · have q1 : ndStep NLk (symT s) = NLk := by rw [HND.out]; rfl
                              have q2 : dfStep DLk (symT s) = s.f0.data.toList :: DLk := by rw [HDF.out]; rfl
                              have q3 : seenStep tStrong SNk (symT s) = SNk := by rw [HSE.out]; first | rfl | (cases mm <;> rfl)
                              have HQ := Lib.hid (And.intro q1 (And.intro q2 q3))
                              clear q1 q2 q3
                              go_wp2
                              exact ⟨⟨k3 + 1, by omega, by omega, .inr HL3.out, rfl, Lib.hid (by rw [HN1.out, HD1.out, HS1.out, HQ.out.1, HQ.out.2.1, HQ.out.2.2]; exact HI3.out.more (by omega))⟩, by have := HL3.out; simp only [intOf]; omega⟩
                      · have hlk := need_look HRY.out.need s.f0 hsz
                        rw [← HVQ.out] at hlk
                        cases vq
                        · as_aux_lemma =>
                            obtain ⟨W3, hrun3, hI3, hg3⟩ := HRY.out.needs s.f0 hsz hnm b2 b2 (by rw [← HVQ.out]; rfl)
                            have HI3 := Lib.hid hI3
                            clear hI3 hg3
                            have q1 : ndStep NLk (symT s) = (s.f0.data.toList, b2) :: NLk := by rw [HND.out]; rfl
                            have q2 : dfStep DLk (symT s) = DLk := by rw [HDF.out]; rfl
                            have q3 : seenStep tStrong SNk (symT s) = SNk := by rw [HSE.out]; first | rfl | (cases mm <;> rfl)
                            have HQ := Lib.hid (And.intro q1 (And.intro q2 q3))
                            clear q1 q2 q3
                            go_wp2
                            exact ⟨⟨k3 + 1, by omega, by omega, .inr HL3.out, rfl, Lib.hid (by rw [HN1.out, HD1.out, HS1.out, HQ.out.1, HQ.out.2.1, HQ.out.2.2]; exact HI3.out.more (by omega))⟩, by have := HL3.out; simp only [intOf]; omega⟩
                        · as_aux_lemma =>
                            obtain ⟨W3, hrun3, hI3, hg3⟩ := HRY.out.needs s.f0 hsz hnm true b2 (by rw [← HVQ.out]; rfl)
                            have HI3 := Lib.hid hI3
                            clear hI3 hg3
                            have q1 : ndStep NLk (symT s) = (s.f0.data.toList, b2) :: NLk := by rw [HND.out]; rfl
                            have q2 : dfStep DLk (symT s) = DLk := by rw [HDF.out]; rfl
                            have q3 : seenStep tStrong SNk (symT s) = SNk := by rw [HSE.out]; first | rfl | (cases mm <;> rfl)
                            have HQ := Lib.hid (And.intro q1 (And.intro q2 q3))
                            clear q1 q2 q3
                            go_wp2
                            exact ⟨⟨k3 + 1, by omega, by omega, .inr HL3.out, rfl, Lib.hid (by rw [HN1.out, HD1.out, HS1.out, HQ.out.1, HQ.out.2.1, HQ.out.2.2]; exact HI3.out.more (by omega))⟩, by have := HL3.out; simp only [intOf]; omega⟩
                    · as_aux_lemma =>
                        skip
                        obtain ⟨W3, hrun3, hI3, hg3⟩ := HRY.out.defs s.f0 hsz hnm
                        have HI3 := Lib.hid hI3
                        have HY3 := Lib.hid (blk_grown HY0.out hg3 (inj_ne HGY.out.2.1))
                        have y30 := (blk_cell HY3.out 0).trans rfl
                        clear hI3 hg3
                        cases b2
                        · have q1 : ndStep NLk (symT s) = NLk := by rw [HND.out]; rfl
                          have q2 : dfStep DLk (symT s) = s.f0.data.toList :: DLk := by rw [HDF.out]; rfl
                          have q3 : seenStep tStrong SNk (symT s) = SNk := by rw [HSE.out]; first | rfl | (cases mm <;> rfl)
                          have HQ := Lib.hid (And.intro q1 (And.intro q2 q3))
                          clear q1 q2 q3
                          go_wp2
                          exact ⟨⟨k3 + 1, by omega, by omega, .inr HL3.out, rfl, Lib.hid (by rw [HN1.out, HD1.out, HS1.out, HQ.out.1, HQ.out.2.1, HQ.out.2.2]; exact HI3.out.more (by omega))⟩, by have := HL3.out; simp only [intOf]; omega⟩
                        · have hlk := name_look HI3.out.seen s.f0 hsz
                          rw [← HMM.out] at hlk
                          cases mm
                          · obtain ⟨W4, hrun4, hI4, hg4⟩ := HI3.out.seens s.f0 hsz hnm1
                            have HI4 := Lib.hid hI4
                            have HY4 := Lib.hid (blk_grown HY3.out hg4 (inj_ne HGY.out.2.2.2))
                            have y40 := (blk_cell HY4.out 0).trans rfl
                            have hlc := cnt_look HI4.out.dbl s.f0 hsz
                            obtain ⟨cn, hcn⟩ : ∃ cn : Nat, cn = (SNk ++ UL0).count s.f0.data.toList := ⟨_, rfl⟩
                            have hcb : cn ≤ 10000 := by rw [hcn]; refine Nat.le_trans List.count_le_length ?_; have := HI4.out.len; omega
                            rw [← hcn] at hlc
                            obtain ⟨W5, hrun5, hI5, hg5⟩ := HI4.out.dbls s.f0 hsz (by omega) ((cn : Int) + 1) (by rw [hcn])
                            have HI5 := Lib.hid hI5
                            have cw : IntKind.i64.wrap ((cn : Int) + 1) = (cn : Int) + 1 := by rw [IntKind.wrap_i64]; omega
                            clear hI4 hg4 hcn hcb hI5 hg5
                            have q1 : ndStep NLk (symT s) = NLk := by rw [HND.out]; rfl
                            have q2 : dfStep DLk (symT s) = s.f0.data.toList :: DLk := by rw [HDF.out]; rfl
                            have q3 : seenStep tStrong SNk (symT s) = s.f0.data.toList :: SNk := by rw [HSE.out]; first | rfl | (cases mm <;> rfl)
                            have HQ := Lib.hid (And.intro q1 (And.intro q2 q3))
                            clear q1 q2 q3
                            go_wp2
                            exact ⟨⟨k3 + 1, by omega, by omega, .inr HL3.out, rfl, Lib.hid (by rw [HN1.out, HD1.out, HS1.out, HQ.out.1, HQ.out.2.1, HQ.out.2.2]; exact HI5.out.more (by omega))⟩, by have := HL3.out; simp only [intOf]; omega⟩
                          · have q1 : ndStep NLk (symT s) = NLk := by rw [HND.out]; rfl
                            have q2 : dfStep DLk (symT s) = s.f0.data.toList :: DLk := by rw [HDF.out]; rfl
                            have q3 : seenStep tStrong SNk (symT s) = SNk := by rw [HSE.out]; first | rfl | (cases mm <;> rfl)
                            have HQ := Lib.hid (And.intro q1 (And.intro q2 q3))
                            clear q1 q2 q3
                            go_wp2
                            exact ⟨⟨k3 + 1, by omega, by omega, .inr HL3.out, rfl, Lib.hid (by rw [HN1.out, HD1.out, HS1.out, HQ.out.1, HQ.out.2.1, HQ.out.2.2]; exact HI3.out.more (by omega))⟩, by have := HL3.out; simp only [intOf]; omega⟩
                  · as_aux_lemma =>
                      skip
                      have q1 : ndStep NLk (symT s) = NLk := by rw [HND.out]; rfl
                      have q2 : dfStep DLk (symT s) = DLk := by rw [HDF.out]; rfl
                      have q3 : seenStep tStrong SNk (symT s) = SNk := by rw [HSE.out]; first | rfl | (cases mm <;> rfl)
                      have HQ := Lib.hid (And.intro q1 (And.intro q2 q3))
                      clear q1 q2 q3
                      go_wp2
                      exact ⟨⟨k3 + 1, by omega, by omega, .inr HL3.out, rfl, Lib.hid (by rw [HN1.out, HD1.out, HS1.out, HQ.out.1, HQ.out.2.1, HQ.out.2.2]; exact HRY.out.more (by omega))⟩, by have := HL3.out; simp only [intOf]; omega⟩
                · as_aux_lemma =>
                    skip
                    have q1 : ndStep NLk (symT s) = NLk := by rw [HND.out]; rfl
                    have q2 : dfStep DLk (symT s) = DLk := by rw [HDF.out]; rfl
                    have q3 : seenStep tStrong SNk (symT s) = SNk := by rw [HSE.out]; first | rfl | (cases mm <;> rfl)
                    have HQ := Lib.hid (And.intro q1 (And.intro q2 q3))
                    clear q1 q2 q3
                    go_wp2
                    exact ⟨⟨k3 + 1, by omega, by omega, .inr HL3.out, rfl, Lib.hid (by rw [HN1.out, HD1.out, HS1.out, HQ.out.1, HQ.out.2.1, HQ.out.2.2]; exact HRY.out.more (by omega))⟩, by have := HL3.out; simp only [intOf]; omega⟩
            · have hke : (secT c0).f10.length ≤ k3 := by show (c0.f10.map symT).length ≤ k3; rw [List.length_map]; omega
              have km3 : ¬ ((k3 : Int) < (c0.f10.length : Int)) := by omega
              have km4 : ¬ (k3 < c0.f10.length) := hlt3
              go_wp2
              exact ⟨⟨k2 + 1, HL2.out, rfl, Lib.hid (by rw [HF1.out, HF2.out, HF3.out, ← fK_all _ _ _ _ hke, ← fK_all _ _ _ _ hke, show seenC tStrong SN1 (secT c0) = fK (seenStep tStrong) SN1 (secT c0) k3 from (fK_all _ _ _ _ hke).symm]; exact HR3.out.more (by omega))⟩, by have := HL2.out; simp only [intOf]; omega⟩
        · have hke : k2 = LS.length := by omega
          have htk : (PM z).L.take k2 = (PM z).L := List.take_of_length_le (by rw [HPL.out, List.length_map]; omega)
          rw [htk] at HR2
          have hk13 := HLL.out
          have km2 : ¬ ((k2 : Int) < (LS.length : Int)) := by omega
          have km3 : ¬ (k2 < LS.length) := hlt2
          go_wp2
          exact ⟨⟨k + 1, HL1.out, by omega, rfl, Lib.hid (by
            rw [HMS.out, fA_snoc, fA_snoc, incsM_snoc, ← HE1.out.1, ← HE1.out.2.1, ← HE1.out.2.2.1, ← HE1.out.2.2.2]
            exact (HR2.out.more (n' := 1000 * (k + 1)) (by omega)).out)⟩, by have := hk3; simp only [intOf]; omega⟩
    · as_aux_lemma =>
        have HE := Lib.hid hlt
        have km0 : (0 : Int) ≤ (k : Int) := by omega
        go_upto_region 6 with (fail)
        go_cut [36] from 29 to 35 (fun s36 wx => s36 = .bool false ∧ wx = wr)
        case first =>
          by_cases h1 : k < zs.length
          · have h2 : ¬ (k < 4) := fun h => HE.out ⟨h1, h⟩
            have km1 : (k : Int) < (zs.length : Int) := by omega
            have km4 : ¬ ((k : Int) < 4) := by omega
            go_wp2
            go_meet
            exact ⟨rfl, rfl⟩
          · have km1 : ¬ ((k : Int) < (zs.length : Int)) := by omega
            go_wp2
            go_meet
            exact ⟨rfl, rfl⟩
        case rest =>
          obtain ⟨rfl, rfl⟩ := hcut
          have hok := msK_ok zs k hk4
          obtain ⟨AA, cA, hva, lA, hCA⟩ := Kd.R_reads HR.out.mods
          subst hva
          obtain ⟨ms, hms⟩ : ∃ ms, ms = msK zs k := ⟨_, rfl⟩
          rw [← hms] at HR hok lA hCA ⊢
          have HMI := Lib.hid (missing_any ms hok AA cA wc hCA)
          have HDB := Lib.hid (fun W (hb : Below wc.heap.size wc W) => doubled_any ms hok AA cA W (Kd.C_below hCA hb))
          have HNI := Lib.hid (need_iff ms)
          have HDI := Lib.hid (def_iff ms)
          obtain ⟨NL, hNL⟩ : ∃ NL, NL = fA ndStep [] ms := ⟨_, rfl⟩
          obtain ⟨DL, hDL⟩ : ∃ DL, DL = fA dfStep [] ms := ⟨_, rfl⟩
          obtain ⟨UL, hUL⟩ : ∃ UL, UL = incsM tStrong ms := ⟨_, rfl⟩
          rw [← hNL, ← hDL, ← hUL] at HR
          rw [← hNL] at HNI
          rw [← hDL] at HDI
          rw [← hUL] at HDB
          have HSM := Lib.hid (And.intro (incsM_short tNeed ms hok) (incsM_short tStrong ms hok))
          have HUL := Lib.hid hUL
          clear hms hNL hDL hUL hCA lA hok
          go_upto_region 27 with (first
            | (go_at_call 7; refine HMI.out.mono ?_; rintro e w7 ⟨v7, k7, rfl, hR7, hP7, hM7, hL7, hB7⟩; obtain ⟨A7, c7, rfl, _, hC7⟩ := Kd.R_reads hR7; have HC7 := Lib.hid hC7; have HF7 := Lib.hid (And.intro hP7 (And.intro hM7 hL7)); have HB7 := Lib.hid hB7; clear hR7 hC7 hP7 hM7 hL7 hB7)
            | (go_at_call 8; refine (HDB.out _ HB7.out).mono ?_; rintro e w8 ⟨v8, k8, rfl, hR8, hP8, hM8, hL8, hB8⟩; obtain ⟨A8, c8, rfl, _, hC8⟩ := Kd.R_reads hR8; have HC8 := Lib.hid hC8; have HF8 := Lib.hid (And.intro hP8 (And.intro hM8 hL8)); have HC78 := Lib.hid (Kd.C_below HC7.out hB8); have HO8 := Lib.hid (HR.out.below (HB7.out.trans (hB8.mono HB7.out.size))); clear hR8 hC8 hP8 hM8 hL8 hB8))
          clear HMI HDB HB7 HC7 HR
          go_wp2
          go_loopw [16] (fun i wx => ∃ k : Nat, k ≤ k7.length ∧ i = .int .i64 k ∧ Hid (Below w8.heap.size w8 wx)) (fun i _ => k7.length - (intOf i).toNat)
          case atStart => exact ⟨0, Nat.zero_le _, rfl, Lib.hid (Below.refl _ _)⟩
          case round =>
            obtain ⟨i6, hi6, rfl, HR6⟩ := hrel
            by_cases hlt6 : i6 < k7.length
            · obtain ⟨ad, hA, hx⟩ := at_BA HC78.out i6 hlt6
              subst hA
              have HXX := Lib.hid (show ∀ W, Below w8.heap.size w8 W → W.cell? (ad.add i6) = some (.string (toBA k7[i6])) from fun W hb => (hb.cell (World.block_lt_of_cell? w8 _ hx)).trans hx)
              clear hx
              have hmem := (HF7.out.2.1 k7[i6]).1 (List.getElem_mem hlt6)
              have hsz : (toBA k7[i6]).size ≤ maxLen := by
                have h := HSM.out.1 k7[i6] hmem.1
                show k7[i6].toArray.size ≤ maxLen
                unfold maxLen; rw [List.size_toArray]; omega
              have hto : (toBA k7[i6]).data.toList = k7[i6] := by simp [toBA]
              have HLK := Lib.hid (show ∀ W, Below w8.heap.size w8 W → (Instr.lookup 25 (.map (some gN)) (.string (toBA k7[i6])) false).run Tryz.prog W = .ok (.bool true) W ∧ (Instr.lookup 25 (.map (some gD)) (.string (toBA k7[i6])) false).run Tryz.prog W = .ok (.bool false) W from fun W hb => by
                have hl1 := need_look (owns_below HO8.out.need hb) (toBA k7[i6]) hsz
                rw [hto, (HNI.out k7[i6]).2 hmem.1] at hl1
                have hl2 := name_look (owns_below HO8.out.defd hb) (toBA k7[i6]) hsz
                rw [hto, decide_eq_false (fun h => hmem.2 ((HDI.out k7[i6]).1 h))] at hl2
                exact ⟨hl1, hl2⟩)
              have HPR := Lib.hid (show ∀ (j : Nat) (h : i6 = j + 1), Op.bytesLess (toBA (k7[j]'(by omega))).toList (toBA k7[i6]).toList = true from fun j h => by
                have h2 := (List.pairwise_iff_getElem.1 HF7.out.1) j i6 (by omega) hlt6 (by omega)
                rw [Go.Proofs.bytesLess_eq, decide_eq_true_eq, Lib.toList_data, Lib.toList_data]
                simpa [toBA] using h2)
              obtain ⟨bs, hbs⟩ : ∃ bs, bs = toBA k7[i6] := ⟨_, rfl⟩
              rw [← hbs] at HXX HLK HPR
              have HL6 := Lib.hid hlt6
              have kd0 : (i6 : Int) < (k7.length : Int) := by omega
              have kd1 : (0 : Int) ≤ (i6 : Int) := by omega
              have kw : IntKind.i64.wrap ((i6 : Int) + 1) = ((i6 + 1 : Nat) : Int) := by rw [IntKind.wrap_i64]; have := HF7.out.2.2; omega
              clear hbs hto hmem hsz
              by_cases hk0 : i6 = 0
              · have hk3 : ¬ ((0 : Int) < (i6 : Int)) := by omega
                have hk4 : decide ((0 : Int) < (i6 : Int)) = false := by rw [decide_eq_false_iff_not]; omega
                have hk5 : ¬ (0 < i6) := by omega
                have hk6 : decide (0 < i6) = false := by rw [decide_eq_false_iff_not]; omega
                clear hk0
                go_upto_region 30 with (fail)
                have hx := HXX.out wr HR6.out
                have hl1 := fun q => (HLK.out (wr.drewN q) (HR6.out.trans ((pw_below_drewN (Below.refl _ _) q : Below wr.heap.size wr _).mono HR6.out.size))).1
                have hl2 := fun q => (HLK.out (wr.drewN q) (HR6.out.trans ((pw_below_drewN (Below.refl _ _) q : Below wr.heap.size wr _).mono HR6.out.size))).2
                go_quiet (fail)
                go_wp2
                exact ⟨⟨i6 + 1, HL6.out, by go_num, Lib.hid (HR6.out.trans ((pw_below_drewN (Below.refl _ _) nq : Below wr.heap.size wr _).mono HR6.out.size))⟩, by have := HL6.out; simp only [intOf]; omega⟩
              · obtain ⟨j, hj⟩ : ∃ j, i6 = j + 1 := ⟨i6 - 1, by omega⟩
                have hjl : j < k7.length := by omega
                obtain ⟨ad2, hA2, hx2⟩ := at_BA HC78.out j hjl
                injection hA2 with hA2
                subst hA2
                have HX2 := Lib.hid (show ∀ W, Below w8.heap.size w8 W → W.cell? (ad.add j) = some (.string (toBA k7[j])) from fun W hb => (hb.cell (World.block_lt_of_cell? w8 _ hx2)).trans hx2)
                clear hx2
                have hbl := HPR.out j hj
                obtain ⟨b2, hb2⟩ : ∃ b2, b2 = toBA k7[j] := ⟨_, rfl⟩
                rw [← hb2] at HX2 hbl
                have hk3 : (0 : Int) < (i6 : Int) := by omega
                have hk4 : decide ((0 : Int) < (i6 : Int)) = true := by rw [decide_eq_true_eq]; omega
                have hk5 : 0 < i6 := by omega
                have hk6 : decide (0 < i6) = true := by rw [decide_eq_true_eq]; omega
                have bw : IntKind.i64.wrap ((i6 : Int) - 1) = (j : Int) := by rw [IntKind.wrap_i64]; have := HF7.out.2.2; omega
                have kd2 : (j : Int) < (k7.length : Int) := by omega
                have kd3 : (0 : Int) ≤ (j : Int) := by omega
                clear hk0 hj hb2
                go_upto_region 30 with (fail)
                have hx := HXX.out wr HR6.out
                have hx2 := HX2.out wr HR6.out
                have hl1 := fun q => (HLK.out (wr.drewN q) (HR6.out.trans ((pw_below_drewN (Below.refl _ _) q : Below wr.heap.size wr _).mono HR6.out.size))).1
                have hl2 := fun q => (HLK.out (wr.drewN q) (HR6.out.trans ((pw_below_drewN (Below.refl _ _) q : Below wr.heap.size wr _).mono HR6.out.size))).2
                go_quiet (fail)
                go_wp2
                exact ⟨⟨i6 + 1, HL6.out, by go_num, Lib.hid (HR6.out.trans ((pw_below_drewN (Below.refl _ _) nq : Below wr.heap.size wr _).mono HR6.out.size))⟩, by have := HL6.out; simp only [intOf]; omega⟩
            · have hke : i6 = k7.length := by omega
              have HR67 := Lib.hid HR6.out
              subst hke
              go_wp2
              go_loopw [17] (fun i wx => ∃ k : Nat, k ≤ k8.length ∧ i = .int .i64 k ∧ Hid (Below w8.heap.size w8 wx)) (fun i _ => k8.length - (intOf i).toNat)
              case atStart => exact ⟨0, Nat.zero_le _, rfl, HR67⟩
              case round =>
                obtain ⟨i8, hi8, rfl, HR8⟩ := hrel
                by_cases hlt8 : i8 < k8.length
                · obtain ⟨ad, hA, hx⟩ := at_BA HC8.out i8 hlt8
                  subst hA
                  have HXX := Lib.hid (show ∀ W, Below w8.heap.size w8 W → W.cell? (ad.add i8) = some (.string (toBA k8[i8])) from fun W hb => (hb.cell (World.block_lt_of_cell? w8 _ hx)).trans hx)
                  clear hx
                  have hmem := (HF8.out.2.1 k8[i8]).1 (List.getElem_mem hlt8)
                  have hsz : (toBA k8[i8]).size ≤ maxLen := by
                    have h := HSM.out.2 k8[i8] (by rw [← HUL.out]; exact List.count_pos_iff.1 (by omega))
                    show k8[i8].toArray.size ≤ maxLen
                    unfold maxLen; rw [List.size_toArray]; omega
                  have hto : (toBA k8[i8]).data.toList = k8[i8] := by simp [toBA]
                  have HLK := Lib.hid (show ∀ W, Below w8.heap.size w8 W → (Instr.lookup 26 (.map (some gU)) (.string (toBA k8[i8])) false).run Tryz.prog W = .ok (.int .i64 ((UL.count k8[i8] : Nat) : Int)) W from fun W hb => by
                    have hl1 := cnt_look (owns_below HO8.out.dbl hb) (toBA k8[i8]) hsz
                    rw [hto] at hl1
                    exact hl1)
                  obtain ⟨cn, hcn⟩ : ∃ cn, cn = UL.count k8[i8] := ⟨_, rfl⟩
                  rw [← hcn] at HLK
                  have hc2 : 2 ≤ cn := by rw [hcn]; exact hmem
                  have hd1 : decide ((cn : Int) < 2) = false := by rw [decide_eq_false_iff_not]; omega
                  have hd2 : decide (cn < 2) = false := by rw [decide_eq_false_iff_not]; omega
                  clear hcn
                  have HPR := Lib.hid (show ∀ (j : Nat) (h : i8 = j + 1), Op.bytesLess (toBA (k8[j]'(by omega))).toList (toBA k8[i8]).toList = true from fun j h => by
                    have h2 := (List.pairwise_iff_getElem.1 HF8.out.1) j i8 (by omega) hlt8 (by omega)
                    rw [Go.Proofs.bytesLess_eq, decide_eq_true_eq, Lib.toList_data, Lib.toList_data]
                    simpa [toBA] using h2)
                  obtain ⟨bs, hbs⟩ : ∃ bs, bs = toBA k8[i8] := ⟨_, rfl⟩
                  rw [← hbs] at HXX HLK HPR
                  have HL8 := Lib.hid hlt8
                  have kd0 : (i8 : Int) < (k8.length : Int) := by omega
                  have kd1 : (0 : Int) ≤ (i8 : Int) := by omega
                  have kw : IntKind.i64.wrap ((i8 : Int) + 1) = ((i8 + 1 : Nat) : Int) := by rw [IntKind.wrap_i64]; have := HF8.out.2.2; omega
                  clear hbs hto hmem hsz
                  by_cases hk0 : i8 = 0
                  · have hk3 : ¬ ((0 : Int) < (i8 : Int)) := by omega
                    have hk4 : decide ((0 : Int) < (i8 : Int)) = false := by rw [decide_eq_false_iff_not]; omega
                    have hk5 : ¬ (0 < i8) := by omega
                    have hk6 : decide (0 < i8) = false := by rw [decide_eq_false_iff_not]; omega
                    clear hk0
                    go_upto_region 35 with (fail)
                    have hx := HXX.out wr HR8.out
                    have hl1 := fun q => HLK.out (wr.drewN q) (HR8.out.trans ((pw_below_drewN (Below.refl _ _) q : Below wr.heap.size wr _).mono HR8.out.size))
                    go_quiet (fail)
                    go_wp2
                    exact ⟨⟨i8 + 1, HL8.out, by go_num, Lib.hid (HR8.out.trans ((pw_below_drewN (Below.refl _ _) nq : Below wr.heap.size wr _).mono HR8.out.size))⟩, by have := HL8.out; simp only [intOf]; omega⟩
                  · obtain ⟨j, hj⟩ : ∃ j, i8 = j + 1 := ⟨i8 - 1, by omega⟩
                    have hjl : j < k8.length := by omega
                    obtain ⟨ad2, hA2, hx2⟩ := at_BA HC8.out j hjl
                    injection hA2 with hA2
                    subst hA2
                    have HX2 := Lib.hid (show ∀ W, Below w8.heap.size w8 W → W.cell? (ad.add j) = some (.string (toBA k8[j])) from fun W hb => (hb.cell (World.block_lt_of_cell? w8 _ hx2)).trans hx2)
                    clear hx2
                    have hbl := HPR.out j hj
                    obtain ⟨b2, hb2⟩ : ∃ b2, b2 = toBA k8[j] := ⟨_, rfl⟩
                    rw [← hb2] at HX2 hbl
                    have hk3 : (0 : Int) < (i8 : Int) := by omega
                    have hk4 : decide ((0 : Int) < (i8 : Int)) = true := by rw [decide_eq_true_eq]; omega
                    have hk5 : 0 < i8 := by omega
                    have hk6 : decide (0 < i8) = true := by rw [decide_eq_true_eq]; omega
                    have bw : IntKind.i64.wrap ((i8 : Int) - 1) = (j : Int) := by rw [IntKind.wrap_i64]; have := HF8.out.2.2; omega
                    have kd2 : (j : Int) < (k8.length : Int) := by omega
                    have kd3 : (0 : Int) ≤ (j : Int) := by omega
                    clear hk0 hj hb2
                    go_upto_region 35 with (fail)
                    have hx := HXX.out wr HR8.out
                    have hx2 := HX2.out wr HR8.out
                    have hl1 := fun q => HLK.out (wr.drewN q) (HR8.out.trans ((pw_below_drewN (Below.refl _ _) q : Below wr.heap.size wr _).mono HR8.out.size))
                    go_quiet (fail)
                    go_wp2
                    exact ⟨⟨i8 + 1, HL8.out, by go_num, Lib.hid (HR8.out.trans ((pw_below_drewN (Below.refl _ _) nq : Below wr.heap.size wr _).mono HR8.out.size))⟩, by have := HL8.out; simp only [intOf]; omega⟩
                · have hke : i8 = k8.length := by omega
                  have HR89 := Lib.hid HR8.out
                  subst hke
                  obtain ⟨w9, hw9⟩ : ∃ w9, w9 = wr := ⟨_, rfl⟩
                  subst hw9
                  obtain ⟨K1, hK1⟩ : ∃ K1, K1 = dedup (NL.map (·.1)) := ⟨_, rfl⟩
                  obtain ⟨K2, hK2⟩ : ∃ K2, K2 = dedup UL := ⟨_, rfl⟩
                  have HT1 := Lib.hid (show K1.countP (fun s => valOf s NL && !decide (s ∈ DL)) = k7.length from by
                    rw [hK1]
                    exact cnt_perm _ _ _ (nodup_dedup _) HF7.out.1 (fun s => by
                      rw [HF7.out.2.1, ← HNI.out, ← HDI.out, mem_dedup]
                      constructor
                      · rintro ⟨h1, h2⟩; exact ⟨val_mem h1, by rw [h1, decide_eq_false h2]; rfl⟩
                      · rintro ⟨_, h⟩; simp only [Bool.and_eq_true, Bool.not_eq_true', decide_eq_false_iff_not] at h; exact h))
                  have HT2 := Lib.hid (show K2.countP (fun s => decide (1 < UL.count s)) = k8.length from by
                    rw [hK2]
                    exact cnt_perm _ _ _ (nodup_dedup _) HF8.out.1 (fun s => by
                      rw [HF8.out.2.1, mem_dedup, decide_eq_true_eq]
                      exact ⟨fun h => ⟨List.count_pos_iff.1 (by omega), h⟩, fun h => h.2⟩))
                  have HH1 := Lib.hid (show ∀ s, Maps.has (needD NL) (.string s) = true ↔ s ∈ K1 from fun s => by rw [hK1, mem_dedup]; exact needD_has s NL)
                  have HH2 := Lib.hid (show ∀ s, Maps.has (cntD UL) (.string s) = true ↔ s ∈ K2 from fun s => by rw [hK2, mem_dedup]; exact cntD_has s UL)
                  have HK1 := Lib.hid hK1
                  have HK2 := Lib.hid hK2
                  clear hK1 hK2
                  have HNm1 := owns_below HO8.out.need HR89.out
                  go_wp2_with (first | (at_range; refine wpList_range_own _ rfl _ 25 rfl 9 4 (Maps.string_keyed Tryz.underlying9) Tryz.underlying25 _ gN _ _ rfl HNm1 ?_; intro w0 hrg0 hg0 hs0))
                  go_frame
                  go_loopw [18] (fun nv wx => ∃ (left : Lit → Bool) (cnt m : Nat), nv = .int .i64 m ∧ Hid (wx.ranges Tryz.prog 9 (plainElem (H := Unit) Tryz.prog 4) gN w9.heap.size (1000 * k) (needD NL) left cnt ∧ m + K1.countP (fun s => left (.string s) && (valOf s NL && !decide (s ∈ DL))) = k7.length ∧ (∀ s, left (.string s) = true → s ∈ K1) ∧ Below w8.heap.size w8 wx)) (fun _ wx => wx.rangeLeft gN w9.heap.size)
                  case atStart => exact ⟨_, _, 0, rfl, Lib.hid ⟨hrg0, by
                    rw [Nat.zero_add, ← HT1.out]
                    exact List.countP_congr (fun s hs => by rw [(HH1.out s).2 hs, Bool.true_and]), fun s h => (HH1.out s).1 h, HR89.out.grown hg0 HR89.out.size (fun b e => by cases e)⟩⟩
                  case round =>
                    obtain ⟨left, cnt, m, rfl, HQ⟩ := hrel
                    clear hrg0 hg0 hs0
                    go_wp2_with (first | (at_next; refine next_w _ rfl _ rfl 9 (Maps.string_keyed Tryz.underlying9) (plainElem (H := Unit) Tryz.prog 4) encStr Value.bool (fun key kl h => by obtain ⟨x, h1, _⟩ := Maps.keyOf_str Tryz.underlying9 h; exact ⟨x, h1⟩) (fun v y h => by obtain ⟨b, h1, _⟩ := bool_elem h; exact ⟨b, h1⟩) gN w9.heap.size _ _ _ _ rfl HQ.out.1 ?_ ?_))
                    · as_aux_lemma =>
                        skip
                        intro hc0 hl0
                        have hm : m = k7.length := by
                          have h := HQ.out.2.1
                          rw [List.countP_eq_zero.2 (fun s _ => by rw [hl0]; simp), Nat.add_zero] at h
                          exact h
                        subst hm
                        have HR9x := Lib.hid HQ.out.2.2.2
                        obtain ⟨w10, hw10⟩ : ∃ w10, w10 = wr := ⟨_, rfl⟩
                        subst hw10
                        clear HQ hl0 hc0 HNm1
                        have HNm2 := owns_below HO8.out.dbl HR9x.out
                        go_wp2_with (first | (at_range; refine wpList_range_own _ rfl _ 26 rfl 9 3 (Maps.string_keyed Tryz.underlying9) Tryz.underlying26 _ gU _ _ rfl HNm2 ?_; intro w0 hrg0 hg0 hs0))
                        go_frame
                        go_loopw [19] (fun nv wx => ∃ (left : Lit → Bool) (cnt m : Nat), nv = .int .i64 m ∧ Hid (wx.ranges Tryz.prog 9 (plainElem (H := Unit) Tryz.prog 3) gU w10.heap.size (1000 * k) (cntD UL) left cnt ∧ m + K2.countP (fun s => left (.string s) && (decide (1 < UL.count s))) = k8.length ∧ (∀ s, left (.string s) = true → s ∈ K2) ∧ Below w8.heap.size w8 wx)) (fun _ wx => wx.rangeLeft gU w10.heap.size)
                        case atStart => exact ⟨_, _, 0, rfl, Lib.hid ⟨hrg0, by
                          rw [Nat.zero_add, ← HT2.out]
                          exact List.countP_congr (fun s hs => by rw [(HH2.out s).2 hs, Bool.true_and]), fun s h => (HH2.out s).1 h, HR9x.out.grown hg0 HR9x.out.size (fun b e => by cases e)⟩⟩
                        case round =>
                          obtain ⟨left, cnt, m, rfl, HQ⟩ := hrel
                          clear hrg0 hg0 hs0
                          go_wp2_with (first | (at_next; refine next_w _ rfl _ rfl 9 (Maps.string_keyed Tryz.underlying9) (plainElem (H := Unit) Tryz.prog 3) encStr (Value.int .i64) (fun key kl h => by obtain ⟨x, h1, _⟩ := Maps.keyOf_str Tryz.underlying9 h; exact ⟨x, h1⟩) (fun v y h => by obtain ⟨b, h1, _⟩ := plainElem_int_inv Tryz.underlying3 h; exact ⟨b, h1⟩) gU w10.heap.size _ _ _ _ rfl HQ.out.1 ?_ ?_))
                          · as_aux_lemma =>
                              skip
                              intro hc0 hl0
                              have hm : m = k8.length := by
                                have h := HQ.out.2.1
                                rw [List.countP_eq_zero.2 (fun s _ => by rw [hl0]; simp), Nat.add_zero] at h
                                exact h
                              subst hm
                              go_wp2
                              go_ret
                              exact ⟨rfl, HO8.out.low.trans (HQ.out.2.2.2.mono HO8.out.low.size)⟩
                          · as_aux_lemma =>
                              skip
                              intro x c kl y w1 cnt1 hkey hlk hv hat hrg1 hlt hg1 hs1 hen
                              obtain ⟨rfl, hxl⟩ := key_str hkey
                              have hstep := cnt_step (fun s => decide (1 < UL.count s)) left x hlk K2 (by rw [HK2.out]; exact nodup_dedup _) (HQ.out.2.2.1 x hlk)
                              have HBW := Lib.hid (show Below w8.heap.size w8 w1 from HQ.out.2.2.2.grown hg1 HQ.out.2.2.2.size (fun b e => by cases e; exact HR9x.out.size))
                              have HLFT := Lib.hid (show ∀ s, (left (.string s) && !(Lit.string s).sameKey (.string x)) = true → s ∈ K2 from fun s h => HQ.out.2.2.1 s (by rw [Bool.and_eq_true] at h; exact h.1))
                              have HRG := Lib.hid hrg1
                              have HLT := Lib.hid hlt
                              have hmb : m ≤ 1000 := by have h1 := HQ.out.2.1; have h2 := HF8.out.2.2; omega
                              have mw : IntKind.i64.wrap ((m : Int) + 1) = ((m + 1 : Nat) : Int) := by rw [IntKind.wrap_i64]; omega
                              unfold encStr at hen ⊢
                              have hval : c = ((UL.count x : Nat) : Int) := by
                                obtain ⟨b, hb1, hb2, _⟩ := plainElem_int_inv Tryz.underlying3 hv
                                injection hb1 with _ hb1
                                have h := hat (.lit (.int .i64 0))
                                rw [cnt_at, hb2] at h
                                simp only [DataW.lit.injEq, Lit.int.injEq, true_and] at h
                                rw [hb1, h]
                              obtain ⟨cn, hcn⟩ : ∃ cn, cn = UL.count x := ⟨_, rfl⟩
                              rw [← hcn] at hval hstep
                              subst hval
                              obtain ⟨tb, htb⟩ : ∃ tb, tb = decide (1 < cn) := ⟨_, rfl⟩
                              rw [← htb] at hstep
                              have HST := Lib.hid hstep
                              have c0 : decide ((1 : Int) < (cn : Int)) = tb := by rw [htb]; exact decide_eq_decide.2 (by omega)
                              have c1 : decide (1 < cn) = tb := htb.symm
                              clear hstep hv hat hkey hlk hrg1 hlt hg1 hs1 hcn htb
                              cases tb
                              · have HST := Lib.hid (HST.out.trans (Nat.add_zero _))
                                go_wp2
                                exact ⟨⟨_, cnt1, m, rfl, Lib.hid ⟨HRG.out, by have h1 := HQ.out.2.1; have h2 := HST.out; omega, HLFT.out, HBW.out⟩⟩, by rw [HRG.out.left_eq, HQ.out.1.left_eq]; exact HLT.out⟩
                              · go_wp2
                                exact ⟨⟨_, cnt1, m + 1, rfl, Lib.hid ⟨HRG.out, by have h1 := HQ.out.2.1; have h2 : _ = _ + 1 := HST.out; omega, HLFT.out, HBW.out⟩⟩, by rw [HRG.out.left_eq, HQ.out.1.left_eq]; exact HLT.out⟩
                    · as_aux_lemma =>
                        skip
                        intro x c kl y w1 cnt1 hkey hlk hv hat hrg1 hlt hg1 hs1 hen
                        obtain ⟨rfl, hxl⟩ := key_str hkey
                        have hstep := cnt_step (fun s => valOf s NL && !decide (s ∈ DL)) left x hlk K1 (by rw [HK1.out]; exact nodup_dedup _) (HQ.out.2.2.1 x hlk)
                        have HBW := Lib.hid (show Below w8.heap.size w8 w1 from HQ.out.2.2.2.grown hg1 HQ.out.2.2.2.size (fun b e => by cases e; exact HR89.out.size))
                        have HLFT := Lib.hid (show ∀ s, (left (.string s) && !(Lit.string s).sameKey (.string x)) = true → s ∈ K1 from fun s h => HQ.out.2.2.1 s (by rw [Bool.and_eq_true] at h; exact h.1))
                        have HRG := Lib.hid hrg1
                        have HLT := Lib.hid hlt
                        have hmb : m ≤ 1000 := by have h1 := HQ.out.2.1; have h2 := HF7.out.2.2; omega
                        have mw : IntKind.i64.wrap ((m : Int) + 1) = ((m + 1 : Nat) : Int) := by rw [IntKind.wrap_i64]; omega
                        unfold encStr at hen ⊢
                        have hval : c = valOf x NL := by
                          obtain ⟨b, hb1, hb2⟩ := bool_elem hv
                          injection hb1 with hb1
                          have h := hat (.lit (.bool false))
                          rw [need_at, hb2] at h
                          injection h with h
                          injection h with h
                          rw [hb1, h]
                        obtain ⟨mm, hmm2⟩ : ∃ mm, mm = decide (x ∈ DL) := ⟨_, rfl⟩
                        have hlk2 := name_look (owns_below HO8.out.defd HBW.out) ⟨x.toArray⟩ (by show x.toArray.size ≤ maxLen; rw [List.size_toArray]; exact hxl)
                        rw [show (⟨x.toArray⟩ : ByteArray).data.toList = x from by simp, ← hmm2] at hlk2
                        rw [← hval, ← hmm2] at hstep
                        have HST := Lib.hid hstep
                        clear hval hmm2 hstep hv hat hkey hlk hrg1 hlt hg1 hs1 HR67
                        cases c
                        · have HST := Lib.hid (HST.out.trans (Nat.add_zero _))
                          go_wp2
                          exact ⟨⟨_, cnt1, m, rfl, Lib.hid ⟨HRG.out, by have h1 := HQ.out.2.1; have h2 := HST.out; omega, HLFT.out, HBW.out⟩⟩, by rw [HRG.out.left_eq, HQ.out.1.left_eq]; exact HLT.out⟩
                        · cases mm
                          · go_wp2
                            exact ⟨⟨_, cnt1, m + 1, rfl, Lib.hid ⟨HRG.out, by have h1 := HQ.out.2.1; have h2 : _ = _ + 1 := HST.out; omega, HLFT.out, HBW.out⟩⟩, by rw [HRG.out.left_eq, HQ.out.1.left_eq]; exact HLT.out⟩
                          · have HST := Lib.hid (HST.out.trans (Nat.add_zero _))
                            go_wp2
                            exact ⟨⟨_, cnt1, m, rfl, Lib.hid ⟨HRG.out, by have h1 := HQ.out.2.1; have h2 := HST.out; omega, HLFT.out, HBW.out⟩⟩, by rw [HRG.out.left_eq, HQ.out.1.left_eq]; exact HLT.out⟩
end Go.Proofs.YtkbamfiokhmpjaaGreatDoor

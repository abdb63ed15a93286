/- Contracts over this translation: arlist.Move. -/
import Derived.Test.YtienjagoplcimaaArlC
namespace Go.Proofs.Ytienjagoplcimaa
set_option linter.unusedVariables false
set_option linter.unusedSimpArgs false
open Go.RowKit Go.Proofs.YtienjagoplcimaaW.PrintWords

theorem owns_base {w : World} {b b2 : Nat} {e : TypeId} {sz n : Nat} {v : Value} {xs : List Value} (h : w.ownsRow b e sz v n xs) (hb : b2 ≤ b) : w.ownsRow b2 e sz v n xs := by
  rcases h with ⟨hl, ⟨hv, hn⟩ | ⟨g, cap, cur, hv, hg, rest⟩⟩
  · exact ⟨hl, .inl ⟨hv, hn⟩⟩
  · exact ⟨hl, .inr ⟨g, cap, cur, hv, Nat.le_trans hb hg, rest⟩⟩
theorem owns_some {w : World} {b : Nat} {e : TypeId} {sz n : Nat} {v : Value} {xs : List Value} (h : w.ownsRow b e sz v n xs) (hn : 0 < n) : ∃ g c, v = .slice (some ⟨g, 0, none⟩) n c ∧ b ≤ g ∧ g < w.heap.size ∧ n ≤ c := by
  rcases h with ⟨hl, ⟨hv, hn'⟩ | ⟨g, cap, cur, hv, hg, hh, hc, _⟩⟩
  · omega
  · exact ⟨g, cap, hv, hg, (Array.getElem?_eq_some_iff.1 hh).1, hc⟩
/-- A move: the list, the error. -/
def moveR (l : List MemD) (nm : ByteArray) (at_ : Int) : List MemD × Int := match findN l nm with
  | none => ([], 21)
  | some i => if at_ < 0 ∨ (l.length : Int) ≤ at_ then ([], 11) else match l[i]? with
    | some m => ((l.eraseIdx i).take at_.toNat ++ m :: (l.eraseIdx i).drop at_.toNat, 0)
    | none => ([], 0)
theorem findN_lt {l : List MemD} {nm : ByteArray} {i : Nat} (h : findN l nm = some i) : i < l.length := by
  unfold findN at h
  rw [List.findIdx?_eq_some_iff_getElem] at h
  exact h.1
theorem member_at (l : List MemD) (i : Nat) (m : MemD) (hi : i < l.length) (hm : m = l[i]) (b o : Nat) (w W : World) (hcl : ∀ k v, (l.flatMap encM)[k]? = some v → w.cell? ⟨b, o + k, none⟩ = some v) (hB : Below w.heap.size w W) :
    W.cell? ⟨b, o + i * 6, none⟩ = some (.string m.n) ∧ W.cell? ⟨b, o + i * 6 + 1, none⟩ = some (.int .u64 m.a) ∧ W.cell? ⟨b, o + i * 6 + 2, none⟩ = some (.int .u64 m.b) ∧ W.cell? ⟨b, o + i * 6 + 3, none⟩ = some (.int .u64 m.c) ∧ W.cell? ⟨b, o + i * 6 + 4, none⟩ = some (.int .u64 m.d) ∧ W.cell? ⟨b, o + i * 6 + 5, none⟩ = some (.string m.s) := by
  have h : ∀ j v, j < 6 → (encM m)[j]? = some v → W.cell? ⟨b, o + i * 6 + j, none⟩ = some v := fun j v hj hv => by
    have q := hcl (i * 6 + j) v (by rw [flat_get encM 6 encM_length l i hi j hj, ← hm]; exact hv)
    rw [← Nat.add_assoc] at q
    rw [hB.cell (cell_lt q)]; exact q
  exact ⟨h 0 _ (by decide) rfl, h 1 _ (by decide) rfl, h 2 _ (by decide) rfl, h 3 _ (by decide) rfl, h 4 _ (by decide) rfl, h 5 _ (by decide) rfl⟩
theorem heap_new (w : World) (o : Obj) : (w.alloc o).heap[w.heap.size]? = some o := by
  show (w.heap.push o)[w.heap.size]? = some o
  simp
theorem block_three {w1 w2 w3 : World} {m : MemD} {t : TypeId} {g : Nat} (hK : Below (w1.alloc (.cells #[.string m.n, .int .u64 m.a, .int .u64 m.b, .int .u64 m.c, .int .u64 m.d, .string m.s] t)).heap.size (w1.alloc (.cells #[.string m.n, .int .u64 m.a, .int .u64 m.b, .int .u64 m.c, .int .u64 m.d, .string m.s] t)) w2)
    (hG : w2.grownBy w3 (some g)) (hg : (w1.alloc (.cells #[.string m.n, .int .u64 m.a, .int .u64 m.b, .int .u64 m.c, .int .u64 m.d, .string m.s] t)).heap.size ≤ g) :
    w3.cell? ⟨w1.heap.size, 0, none⟩ = some (.string m.n) ∧ w3.cell? ⟨w1.heap.size, 1, none⟩ = some (.int .u64 m.a) ∧ w3.cell? ⟨w1.heap.size, 2, none⟩ = some (.int .u64 m.b) ∧ w3.cell? ⟨w1.heap.size, 3, none⟩ = some (.int .u64 m.c) ∧ w3.cell? ⟨w1.heap.size, 4, none⟩ = some (.int .u64 m.d) ∧ w3.cell? ⟨w1.heap.size, 5, none⟩ = some (.string m.s) := by
  have hs : (w1.alloc (.cells #[.string m.n, .int .u64 m.a, .int .u64 m.b, .int .u64 m.c, .int .u64 m.d, .string m.s] t)).heap.size = w1.heap.size + 1 := by simp
  have h3 : w3.heap[w1.heap.size]? = some (.cells #[.string m.n, .int .u64 m.a, .int .u64 m.b, .int .u64 m.c, .int .u64 m.d, .string m.s] t) := by
    rw [hG.block _ (by have := hK.size; omega) (by intro h; injection h with h; omega), hK.block _ (by omega)]
    exact heap_new w1 _
  exact ⟨cell_of_row w3 _ 0 _ _ (0, 0) h3, cell_of_row w3 _ 1 _ _ (0, 0) h3, cell_of_row w3 _ 2 _ _ (0, 0) h3, cell_of_row w3 _ 3 _ _ (0, 0) h3, cell_of_row w3 _ 4 _ _ (0, 0) h3, cell_of_row w3 _ 5 _ _ (0, 0) h3⟩
set_option maxHeartbeats 600000 in
set_option maxRecDepth 100000 in
theorem move_m (l : List MemD) (hl : l.length ≤ 1000000) (nm : ByteArray) (at_ : Int) (a : Option Addr) (c : Nat) (w : World) (hr : Rd w a (l.flatMap encM)) :
    Calls Try.prog 12 #[.slice a l.length c, .string nm, .int .i64 at_] w fun e w' => (∃ v, e = .returned (.tuple #[v, .int .i64 (moveR l nm at_).2]) ∧ w'.ownsRow w.heap.size 28 6 v (moveR l nm at_).1.length ((moveR l nm at_).1.flatMap encM)) ∧ Below w.heap.size w w' := by
  have HR := Lib.hid hr
  clear hr
  cases hf : findN l nm with
  | none =>
    have h1 : findI l nm = -1 := by unfold findI; rw [hf]
    have h2 : moveR l nm at_ = ([], 21) := by unfold moveR; rw [hf]
    rw [h2]
    clear h2
    go_enter Try.func12, Try.ntmps12
    go_wp2_with (first | (go_at_call 21; refine (find_m l hl nm a c _ HR.out).mono ?_; rw [h1]; rintro e w1 ⟨rfl, hb1⟩; have HB1 := Lib.hid hb1; clear hb1))
    go_ret2
    exact ⟨⟨_, rfl, World.ownsRow_nil _ _ _ _⟩, HB1.out⟩
  | some i =>
    have hil := findN_lt hf
    have h1 : findI l nm = (i : Int) := by unfold findI; rw [hf]
    by_cases hat : at_ < 0 ∨ (l.length : Int) ≤ at_
    · have h2 : moveR l nm at_ = ([], 11) := by unfold moveR; rw [hf]; simp only [if_pos hat]
      rw [h2]
      clear h2
      have hi0 : ¬ ((i : Int) < 0) := by omega
      by_cases hlo : at_ < 0
      · go_enter Try.func12, Try.ntmps12
        go_wp2_with (first | (go_at_call 21; refine (find_m l hl nm a c _ HR.out).mono ?_; rw [h1]; rintro e w1 ⟨rfl, hb1⟩; have HB1 := Lib.hid hb1; clear hb1))
        go_ret2
        exact ⟨⟨_, rfl, World.ownsRow_nil _ _ _ _⟩, HB1.out⟩
      · have hhi : (l.length : Int) ≤ at_ := by omega
        go_enter Try.func12, Try.ntmps12
        go_wp2_with (first | (go_at_call 21; refine (find_m l hl nm a c _ HR.out).mono ?_; rw [h1]; rintro e w1 ⟨rfl, hb1⟩; have HB1 := Lib.hid hb1; clear hb1))
        go_ret2
        exact ⟨⟨_, rfl, World.ownsRow_nil _ _ _ _⟩, HB1.out⟩
    · obtain ⟨m, hm⟩ : ∃ m, m = l[i] := ⟨_, rfl⟩
      have h2 : moveR l nm at_ = ((l.eraseIdx i).take at_.toNat ++ m :: (l.eraseIdx i).drop at_.toNat, 0) := by unfold moveR; rw [hf]; simp only [if_neg hat, List.getElem?_eq_getElem hil, hm]
      rw [h2]
      clear h2
      obtain ⟨k, rfl⟩ : ∃ k : Nat, at_ = (k : Int) := ⟨at_.toNat, by omega⟩
      have hk : k < l.length := by omega
      have hat1 : ¬ ((k : Int) < 0) := by omega
      have hat2 : ¬ ((l.length : Int) ≤ (k : Int)) := by omega
      have hi0 : ¬ ((i : Int) < 0) := by omega
      have hel : (l.eraseIdx i).length = l.length - 1 := List.length_eraseIdx_of_lt hil
      have HE := Lib.hid hel
      have HM := Lib.hid hm
      clear hat hm
      rw [Int.toNat_natCast]
      obtain ⟨b0, o0, hbo, hcl⟩ := HR.out.at (by rw [flat_length encM 6 encM_length]; omega)
      subst hbo
      have HQ := Lib.hid (fun (W : World) (hB : Below w.heap.size w W) => member_at l i m hil HM.out b0 o0 w W hcl hB)
      clear hcl
      have hl1 : 0 < l.length := by omega
      have HI := Lib.hid (fun (g c base vb vc : Nat) (tv : TypeId) (W : World) => ins_m (l.eraseIdx i) m k (by rw [hel]; omega) (by rw [hel]; omega) g c base vb vc tv W)
      rw [hel] at HI
      clear hel
      go_enter Try.func12, Try.ntmps12
      go_wp2_with (first
        | (go_at_call 21; refine (find_m l hl nm _ c _ HR.out).mono ?_; rw [h1]; rintro e w1 ⟨rfl, hb1⟩; have hq := HQ.out _ hb1; obtain ⟨q0, q1, q2, q3, q4, q5⟩ := hq; have HB1 := Lib.hid hb1; clear hb1)
        | (go_at_call 20; have hX := fun O => HB1.out.alloc HB1.out.size O; refine (clone_m l hl _ c _ (HR.out.below (hX _))).mono ?_; rintro e w2 ⟨⟨v, rfl, ho⟩, hb2⟩; have hs := owns_some ho hl1; obtain ⟨g, c2, rfl, hg1, hg2, hc2⟩ := hs; have HO2 := Lib.hid (owns_base ho (hX _).size); have HB2 := Lib.hid ((hX _).trans (hb2.mono (hX _).size)); have HG := Lib.hid (Nat.le_trans (hX _).size hg1); have HK := Lib.hid hb2; have HW := Lib.hid hg1; have HG2 := Lib.hid hg2; have HC2 := Lib.hid hc2; clear ho hb2 hg1 hg2 hc2 hX)
        | (go_at_call 23; refine (sdel_m l i hil hl g c2 w.heap.size _ HB2.out.size HO2.out).mono ?_; rintro e w3 ⟨rfl, ho3, hg3⟩; have HO3 := Lib.hid ho3; have HB3 := Lib.hid (HB2.out.grown hg3 HB2.out.size (fun k hk => by cases hk; exact HG.out)); have HG3 := Lib.hid (Nat.lt_of_lt_of_le HG2.out hg3.size); have hM := block_three HK.out hg3 HW.out; obtain ⟨r0, r1, r2, r3, r4, r5⟩ := hM; have HG4 := Lib.hid hg3; clear ho3 hg3)
        | (go_at_call 26; have hX3 := fun O => HB3.out.alloc HB3.out.size O; refine (HI.out g c2 w.heap.size w3.heap.size 1 28 _ (by have := HC2.out; omega) (by have := HG3.out; omega) (HO3.out.alloc _) (heap_new w3 _)).mono ?_; rintro e w4 ⟨rfl, ho4, hg4⟩; have HO4 := Lib.hid ho4; have HB4 := Lib.hid ((hX3 _).grown hg4 (hX3 _).size (fun k hk => by cases hk; exact HG.out)); clear ho4 hg4 hX3))
      go_ret2
      refine ⟨⟨_, rfl, ?_⟩, HB4.out⟩
      have h9 : ((l.eraseIdx i).take k ++ m :: (l.eraseIdx i).drop k).length = l.length - 1 + 1 := by
        rw [List.length_append, List.length_cons, List.length_take, List.length_drop, HE.out]; omega
      rw [h9]
      exact HO4.out
end Go.Proofs.Ytienjagoplcimaa

/- The laws ArnumPads, ArnumPuts, ArnumWidths of layer 21, walked: for every input the call returns true. Condition: the tables of the library stand as their initialisers lay them. -/
import Derived.Test.YtnjaijmodkfnjaaDoorArnumE
import Derived.Laws.Bits128
namespace Go.Proofs.YtnjaijmodkfnjaaDoor
set_option linter.unusedVariables false
set_option linter.unusedSimpArgs false
open Go.RowKit Go.Shelf

theorem i64_and31 (n : Int) : bits .and .i64 n 31 = n % 32 := by
  have h31 : (BitVec.ofInt 64 31).toNat = 2 ^ 5 - 1 := by decide
  have key : (BitVec.ofInt 64 n &&& BitVec.ofInt 64 31).toNat = (n % ((2 ^ 64 : Nat) : Int)).toNat % 2 ^ 5 := by
    rw [BitVec.toNat_and, BitVec.toNat_ofInt, h31, Nat.and_two_pow_sub_one_eq_mod]
  show IntKind.i64.wrap ((BitVec.ofInt 64 n &&& BitVec.ofInt 64 31).toNat : Nat) = n % 32
  rw [key, IntKind.wrap_i64]
  omega
theorem i64_and63 (n : Int) : bits .and .i64 n 63 = n % 64 := by
  have h63 : (BitVec.ofInt 64 63).toNat = 2 ^ 6 - 1 := by decide
  have key : (BitVec.ofInt 64 n &&& BitVec.ofInt 64 63).toNat = (n % ((2 ^ 64 : Nat) : Int)).toNat % 2 ^ 6 := by
    rw [BitVec.toNat_and, BitVec.toNat_ofInt, h63, Nat.and_two_pow_sub_one_eq_mod]
  show IntKind.i64.wrap ((BitVec.ofInt 64 n &&& BitVec.ofInt 64 63).toNat : Nat) = n % 64
  rw [key, IntKind.wrap_i64]
  omega
theorem padB_eq (l : List UInt8) (wd : Int) : padB l wd = decide ((l.length : Int) ≤ wd) := by
  unfold padB; by_cases h : wd < l.length
  · rw [if_pos h]; simp; omega
  · rw [if_neg h]; simp; omega

theorem widths_other (n : Nat) (b wd : Int) (h8 : b ≠ 8) (h10 : b ≠ 10) (w : World) (ht : Tabs w) :
    Calls Tryd.prog 6 #[.int .u64 n, .int .i64 b, .int .i64 wd] w fun e w' => e = .returned (.bool true) ∧ Below w.heap.size w w' := by
  have e1 : (b != 8) = true := by simpa using h8
  have e2 : (b != 10) = true := by simpa using h10
  go_enter Tryd.func6, Tryd.ntmps6
  go_wp2_with (first
    | (go_at_call 7; refine (speaks_any _ ht).mono ?_; rintro e w' ⟨rfl, hb⟩)
    | (go_at_call 14; refine (width_other n b h8 h10 _).mono ?_; rintro e w2 ⟨rfl, rfl⟩)
    | (go_at_call 15; refine (fits_other n b wd h8 h10 _).mono ?_; rintro e w3 ⟨rfl, rfl⟩))
  go_ret
  exact ⟨rfl, hb⟩

set_option maxHeartbeats 1000000 in
theorem widths_8 (n : Nat) (hn : n < 18446744073709551616) (wd : Int) (w : World) (ht : Tabs w) :
    Calls Tryd.prog 6 #[.int .u64 n, .int .i64 8, .int .i64 wd] w fun e w' => e = .returned (.bool true) ∧ Below w.heap.size w w' := by
  have ha := i64_and63 wd
  have hP := fun (v : World) (hv : Tabs v) => put_8 n hn (wd % 64) (by omega) v hv
  simp only [padB_eq] at hP
  have HP := Lib.hid hP
  clear hP
  go_enter Tryd.func6, Tryd.ntmps6
  go_wp2_with (first
    | (go_at_call 7; refine (speaks_any _ ht).mono ?_; rintro e w1 ⟨rfl, hb1⟩; have t1 := ht.below hb1)
    | (go_at_call 14; refine (width_8 n hn _ t1).mono ?_; rintro e w2 ⟨rfl, hb2⟩; have t2 := t1.below hb2)
    | (go_at_call 15; (with_reducible refine (fits_8 n hn wd _ t2).mono ?_); rintro e w3 ⟨rfl, hb3⟩; have t3 := t2.below hb3)
    | (go_at_call 10; refine (refPut_8 n hn _).mono ?_; rintro e w4 ⟨rfl, hb4⟩; have t4 := t3.below hb4)
    | (go_at_call 8; refine (HP.out _ t4).mono ?_; rintro e w5 ⟨rfl, hb5⟩; have t5 := t4.below hb5)
    | (go_at_call 15; (with_reducible refine (fits_8 n hn (wd % 64) _ t5).mono ?_); rintro e w6 ⟨rfl, hb6⟩))
  go_ret
  exact ⟨rfl, below_step (below_step (below_step (below_step (below_step hb1 hb2) hb3) hb4) hb5) hb6⟩

set_option maxHeartbeats 1000000 in
theorem widths_10 (n : Nat) (hn : n < 18446744073709551616) (wd : Int) (w : World) (ht : Tabs w) :
    Calls Tryd.prog 6 #[.int .u64 n, .int .i64 10, .int .i64 wd] w fun e w' => e = .returned (.bool true) ∧ Below w.heap.size w w' := by
  have ha := i64_and63 wd
  have hP := fun (v : World) (hv : Tabs v) => put_10 n hn (wd % 64) (by omega) v hv
  simp only [padB_eq] at hP
  have HP := Lib.hid hP
  clear hP
  go_enter Tryd.func6, Tryd.ntmps6
  go_wp2_with (first
    | (go_at_call 7; refine (speaks_any _ ht).mono ?_; rintro e w1 ⟨rfl, hb1⟩; have t1 := ht.below hb1)
    | (go_at_call 14; refine (width_10 n hn _ t1).mono ?_; rintro e w2 ⟨rfl, hb2⟩; have t2 := t1.below hb2)
    | (go_at_call 15; (with_reducible refine (fits_10 n hn wd _ t2).mono ?_); rintro e w3 ⟨rfl, hb3⟩; have t3 := t2.below hb3)
    | (go_at_call 10; refine (refPut_10 n hn _).mono ?_; rintro e w4 ⟨rfl, hb4⟩; have t4 := t3.below hb4)
    | (go_at_call 8; refine (HP.out _ t4).mono ?_; rintro e w5 ⟨rfl, hb5⟩; have t5 := t4.below hb5)
    | (go_at_call 15; (with_reducible refine (fits_10 n hn (wd % 64) _ t5).mono ?_); rintro e w6 ⟨rfl, hb6⟩))
  go_ret
  exact ⟨rfl, below_step (below_step (below_step (below_step (below_step hb1 hb2) hb3) hb4) hb5) hb6⟩

/-! The plain laws of Puts. -/
theorem dropWhile_rep (k : Nat) (r : List UInt8) : (List.replicate k (32 : UInt8) ++ r).dropWhile (· == 32) = r.dropWhile (· == 32) := by
  induction k with
  | zero => rfl
  | succ k ih => rw [List.replicate_succ, List.cons_append, List.dropWhile_cons_of_pos (by decide), ih]
theorem trim_pad (l : List UInt8) (k : Nat) : Lib.trimRightB (l ++ List.replicate k 32) 32 = Lib.trimRightB l 32 := by
  unfold Lib.trimRightB
  rw [List.reverse_append, List.reverse_replicate, dropWhile_rep]
theorem trim_last (l : List UInt8) (c : UInt8) (h : c ≠ 32) : Lib.trimRightB (l ++ [c]) 32 = l ++ [c] := by
  unfold Lib.trimRightB
  rw [List.reverse_append, List.reverse_singleton, List.singleton_append, List.dropWhile_cons_of_neg (by simpa using h)]
  simp
theorem dch_ne (d : Nat) (h : d < 10) : dch d ≠ 32 := by
  intro e
  have := congrArg UInt8.toNat e
  have := dch_dec d h
  simp at *; omega
theorem dgt_dch (d : Nat) (h : d < 10) : dgt (dch d) = d := by
  have := dch_dec d h
  have h2 := (dch d).toNat_lt
  unfold dgt; omega
theorem bdig_last (b u : Nat) (hb : 2 ≤ b) : ∃ l, bdig b u = l ++ [dch (u % b)] := by
  by_cases h : u < b
  · exact ⟨[], by rw [bdig_small h, Nat.mod_eq_of_lt h]; rfl⟩
  · exact ⟨_, bdig_big hb (by omega)⟩
theorem trim_bdig (b u : Nat) (hb : 2 ≤ b) (hb2 : b ≤ 10) : Lib.trimRightB (bdig b u) 32 = bdig b u := by
  obtain ⟨l, hl⟩ := bdig_last b u hb
  rw [hl, trim_last _ _ (dch_ne _ (by have := Nat.mod_lt u (show 0 < b by omega); omega))]
theorem getS_app (b : Nat) (l r : List UInt8) : ∀ n, getS b (l ++ r) n = (getS b l n).bind (getS b r) := by
  induction l with
  | nil => intro n; rfl
  | cons c l ih =>
    intro n
    rw [List.cons_append, getS, getS]
    split
    · exact ih _
    · rfl
theorem getS_bdig (b : Nat) (hb : 2 ≤ b) (hb2 : b ≤ 10) (u : Nat) (hu : u < 18446744073709551616) : getS b (bdig b u) 0 = some u := by
  induction u using Nat.strongRecOn with
  | _ u ih =>
    by_cases h : u < b
    · rw [bdig_small h, getS, if_pos (by rw [dgt_dch u (by omega)]; omega), dgt_dch u (by omega)]; simp [getS]
    · have hm := Nat.mod_lt u (show 0 < b by omega)
      have hd := Nat.div_add_mod u b
      have hlt : u / b < u := Nat.div_lt_self (by omega) (by omega)
      rw [bdig_big hb (by omega), getS_app, ih (u / b) hlt (by omega), Option.bind_some, getS, dgt_dch _ (by omega), Nat.mul_comm, hd, if_pos ⟨hm, hu⟩]
      rfl

theorem puts_other (n : Nat) (hn : n < 18446744073709551616) (b wd : Int) (h8 : b ≠ 8) (h10 : b ≠ 10) (w : World) (ht : Tabs w) :
    Calls Tryd.prog 3 #[.int .u64 n, .int .i64 b, .int .i64 wd] w fun e w' => e = .returned (.bool true) ∧ Below w.heap.size w w' := by
  have e1 : (b != 8) = true := by simpa using h8
  have e2 : (b != 10) = true := by simpa using h10
  have ha := i64_and31 wd
  go_enter Tryd.func3, Tryd.ntmps3
  go_wp2_with (first
    | (go_at_call 7; refine (speaks_any _ ht).mono ?_; rintro e w' ⟨rfl, hb⟩)
    | (go_at_call 8; refine (put_other n b (wd % 32) h8 h10 _).mono ?_; rintro e w2 ⟨rfl, rfl⟩)
    | (go_at_call 9; refine (get_other ⟨#[49]⟩ b h8 h10 _).mono ?_; rintro e w3 ⟨rfl, rfl⟩))
  go_ret
  exact ⟨rfl, hb⟩

set_option maxHeartbeats 1000000 in
theorem puts_8 (n : Nat) (hn : n < 18446744073709551616) (wd : Int) (w : World) (ht : Tabs w) :
    Calls Tryd.prog 3 #[.int .u64 n, .int .i64 8, .int .i64 wd] w fun e w' => e = .returned (.bool true) ∧ Below w.heap.size w w' := by
  have ha := i64_and31 wd
  have hP := fun (v : World) (hv : Tabs v) => put_8 n hn (wd % 32) (by omega) v hv
  obtain ⟨m, hm⟩ : ∃ m : Nat, wd % 32 = m := ⟨(wd % 32).toNat, by omega⟩
  rw [hm] at ha hP
  have hm32 : m < 32 := by omega
  clear hm
  obtain ⟨d, hd⟩ : ∃ d, d = bdig 8 n := ⟨_, rfl⟩
  have hR := fun (v : World) => refPut_8 n hn v
  have hg := getS_bdig 8 (by decide) (by decide) n hn
  have htr := trim_bdig 8 n (by decide) (by decide)
  rw [← hd] at hP hg htr
  simp only [← hd] at hR
  clear hd
  by_cases hl : (m : Int) < d.length
  · have q1 : padS d m = [] := if_pos hl
    have q2 : padB d m = false := if_pos hl
    rw [q1, q2] at hP
    have HP := Lib.hid hP
    have HR := Lib.hid hR
    clear hP hR hg htr q1 q2
    go_enter Tryd.func3, Tryd.ntmps3
    go_wp2_with (first
      | (go_at_call 7; refine (speaks_any _ ht).mono ?_; rintro e w1 ⟨rfl, hb1⟩; have t1 := ht.below hb1)
      | (go_at_call 8; refine (HP.out _ t1).mono ?_; rintro e w2 ⟨rfl, hb2⟩; have t2 := t1.below hb2)
      | (go_at_call 10; refine (HR.out _).mono ?_; rintro e w3 ⟨rfl, hb3⟩))
    go_ret
    exact ⟨rfl, below_step (below_step hb1 hb2) hb3⟩
  · obtain ⟨t, htt⟩ : ∃ t, t = d ++ List.replicate (m - d.length) 32 := ⟨_, rfl⟩
    have q1 : padS d m = t := by rw [htt]; exact (if_neg hl).trans (by simp)
    have q2 : padB d m = true := if_neg hl
    rw [q1, q2] at hP
    have HP := Lib.hid hP
    have HR := Lib.hid hR
    have htl : t.length = m := by rw [htt]; simp; omega
    have htm : t.length ≤ 1000000 := by omega
    have hG := fun (v : World) => getL_8 t htm v
    have e1 : Lib.trimRightB t 32 = d := by rw [htt, trim_pad, htr]
    rw [e1, hg] at hG
    have HG := Lib.hid hG
    have hT := fun (v : World) => trim_any ⟨t.toArray⟩ (by show t.length ≤ _; omega) v
    have hT2 : ∀ v, Calls Tryd.prog 11 #[.string ⟨t.toArray⟩] v fun e w' => e = .returned (.string ⟨d.toArray⟩) ∧ w' = v := fun v => by rw [← e1]; exact hT v
    have HT := Lib.hid hT2
    have hx : (⟨t.toArray⟩ : ByteArray).extract 0 d.length = ⟨d.toArray⟩ := by
      apply ByteArray.ext; rw [ByteArray.data_extract, htt]; simp
    clear hP hR hg htr q1 q2 hG e1 hT hT2 htt htm
    go_enter Tryd.func3, Tryd.ntmps3
    go_wp2_with (first
      | (go_at_call 7; refine (speaks_any _ ht).mono ?_; rintro e w1 ⟨rfl, hb1⟩; have t1 := ht.below hb1)
      | (go_at_call 8; refine (HP.out _ t1).mono ?_; rintro e w2 ⟨rfl, hb2⟩; have t2 := t1.below hb2)
      | (go_at_call 10; refine (HR.out _).mono ?_; rintro e w3 ⟨rfl, hb3⟩)
      | (go_at_call 9; refine (HG.out _).mono ?_; rintro e w4 ⟨rfl, hb4⟩)
      | (go_at_call 11; refine (HT.out _).mono ?_; rintro e w5 ⟨rfl, rfl⟩))
    go_ret
    exact ⟨rfl, below_step (below_step (below_step hb1 hb2) hb3) hb4⟩

set_option maxHeartbeats 1000000 in
theorem puts_10 (n : Nat) (hn : n < 18446744073709551616) (wd : Int) (w : World) (ht : Tabs w) :
    Calls Tryd.prog 3 #[.int .u64 n, .int .i64 10, .int .i64 wd] w fun e w' => e = .returned (.bool true) ∧ Below w.heap.size w w' := by
  have ha := i64_and31 wd
  have hP := fun (v : World) (hv : Tabs v) => put_10 n hn (wd % 32) (by omega) v hv
  obtain ⟨m, hm⟩ : ∃ m : Nat, wd % 32 = m := ⟨(wd % 32).toNat, by omega⟩
  rw [hm] at ha hP
  have hm32 : m < 32 := by omega
  clear hm
  obtain ⟨d, hd⟩ : ∃ d, d = bdig 10 n := ⟨_, rfl⟩
  have hR := fun (v : World) => refPut_10 n hn v
  have hg := getS_bdig 10 (by decide) (by decide) n hn
  have htr := trim_bdig 10 n (by decide) (by decide)
  rw [← hd] at hP hg htr
  simp only [← hd] at hR
  clear hd
  by_cases hl : (m : Int) < d.length
  · have q1 : padS d m = [] := if_pos hl
    have q2 : padB d m = false := if_pos hl
    rw [q1, q2] at hP
    have HP := Lib.hid hP
    have HR := Lib.hid hR
    clear hP hR hg htr q1 q2
    go_enter Tryd.func3, Tryd.ntmps3
    go_wp2_with (first
      | (go_at_call 7; refine (speaks_any _ ht).mono ?_; rintro e w1 ⟨rfl, hb1⟩; have t1 := ht.below hb1)
      | (go_at_call 8; refine (HP.out _ t1).mono ?_; rintro e w2 ⟨rfl, hb2⟩; have t2 := t1.below hb2)
      | (go_at_call 10; refine (HR.out _).mono ?_; rintro e w3 ⟨rfl, hb3⟩))
    go_ret
    exact ⟨rfl, below_step (below_step hb1 hb2) hb3⟩
  · obtain ⟨t, htt⟩ : ∃ t, t = d ++ List.replicate (m - d.length) 32 := ⟨_, rfl⟩
    have q1 : padS d m = t := by rw [htt]; exact (if_neg hl).trans (by simp)
    have q2 : padB d m = true := if_neg hl
    rw [q1, q2] at hP
    have HP := Lib.hid hP
    have HR := Lib.hid hR
    have htl : t.length = m := by rw [htt]; simp; omega
    have htm : t.length ≤ 1000000 := by omega
    have hG := fun (v : World) => getL_10 t htm v
    have e1 : Lib.trimRightB t 32 = d := by rw [htt, trim_pad, htr]
    rw [e1, hg] at hG
    have HG := Lib.hid hG
    have hT := fun (v : World) => trim_any ⟨t.toArray⟩ (by show t.length ≤ _; omega) v
    have hT2 : ∀ v, Calls Tryd.prog 11 #[.string ⟨t.toArray⟩] v fun e w' => e = .returned (.string ⟨d.toArray⟩) ∧ w' = v := fun v => by rw [← e1]; exact hT v
    have HT := Lib.hid hT2
    have hx : (⟨t.toArray⟩ : ByteArray).extract 0 d.length = ⟨d.toArray⟩ := by
      apply ByteArray.ext; rw [ByteArray.data_extract, htt]; simp
    clear hP hR hg htr q1 q2 hG e1 hT hT2 htt htm
    go_enter Tryd.func3, Tryd.ntmps3
    go_wp2_with (first
      | (go_at_call 7; refine (speaks_any _ ht).mono ?_; rintro e w1 ⟨rfl, hb1⟩; have t1 := ht.below hb1)
      | (go_at_call 8; refine (HP.out _ t1).mono ?_; rintro e w2 ⟨rfl, hb2⟩; have t2 := t1.below hb2)
      | (go_at_call 10; refine (HR.out _).mono ?_; rintro e w3 ⟨rfl, hb3⟩)
      | (go_at_call 9; refine (HG.out _).mono ?_; rintro e w4 ⟨rfl, hb4⟩)
      | (go_at_call 11; refine (HT.out _).mono ?_; rintro e w5 ⟨rfl, rfl⟩))
    go_ret
    exact ⟨rfl, below_step (below_step (below_step hb1 hb2) hb3) hb4⟩

theorem trim_end (l : List UInt8) : Lib.trimRightB l 32 = [] ∨ ∃ v c, Lib.trimRightB l 32 = v ++ [c] ∧ c ≠ 32 := by
  unfold Lib.trimRightB
  rcases h : l.reverse.dropWhile (· == 32) with _ | ⟨c, r⟩
  · left; rfl
  · right
    refine ⟨r.reverse, c, by simp, fun hc => ?_⟩
    have : ∀ t : List UInt8, ∀ c r, t.dropWhile (· == 32) = c :: r → c ≠ 32 := by
      intro t
      induction t with
      | nil => intro c r h; simp at h
      | cons a t ih =>
        intro c r h
        by_cases ha : a = 32
        · rw [List.dropWhile_cons_of_pos (by simpa using ha)] at h; exact ih c r h
        · rw [List.dropWhile_cons_of_neg (by simpa using ha)] at h
          rw [List.cons.injEq] at h; rw [← h.1]; exact ha
    exact this _ _ _ h hc

set_option maxHeartbeats 2000000 in
theorem pads_law (l0 : List UInt8) (wd : Int) (w : World) (ht : Tabs w) :
    Calls Tryd.prog 5 #[.string ⟨l0.toArray⟩, .int .i64 wd] w fun e w' => e = .returned (.bool true) ∧ Below w.heap.size w w' := by
  have ha := i64_and63 wd
  obtain ⟨m, hm⟩ : ∃ m : Nat, wd % 64 = m := ⟨(wd % 64).toNat, by omega⟩
  rw [hm] at ha
  have hm64 : m < 64 := by omega
  clear hm
  obtain ⟨l, hh⟩ : ∃ l, l = l0.take 40 := ⟨_, rfl⟩
  have hll : l.length ≤ 40 := by rw [hh, List.length_take]; omega
  have hx := cut_min l0 40 40 rfl
  rw [← hh] at hx
  clear hh
  have hP := fun (v : World) => pad_any l m (by omega) v
  by_cases hl : (m : Int) < l.length
  · have q1 : padS l m = [] := if_pos hl
    have q2 : padB l m = false := if_pos hl
    rw [q1, q2] at hP
    have HP := Lib.hid hP
    clear hP q1 q2
    go_enter Tryd.func5, Tryd.ntmps5
    go_wp2_with (first
      | (go_at_call 7; refine (speaks_any _ ht).mono ?_; rintro e w1 ⟨rfl, hb1⟩)
      | (go_at_call 13; refine (HP.out _).mono ?_; rintro e w2 ⟨rfl, hb2⟩))
    go_ret
    exact ⟨rfl, below_step hb1 hb2⟩
  · obtain ⟨t, htt⟩ : ∃ t, t = l ++ List.replicate (m - l.length) 32 := ⟨_, rfl⟩
    have q1 : padS l m = t := by rw [htt]; exact (if_neg hl).trans (by simp)
    have q2 : padB l m = true := if_neg hl
    rw [q1, q2] at hP
    have HP := Lib.hid hP
    have htl : t.length = m := by rw [htt]; simp; omega
    obtain ⟨u, hu⟩ : ∃ u, u = Lib.trimRightB l 32 := ⟨_, rfl⟩
    have hT := fun (v : World) => trim_any ⟨t.toArray⟩ (by show t.length ≤ _; omega) v
    have hT2 : ∀ v, Calls Tryd.prog 11 #[.string ⟨t.toArray⟩] v fun e w' => e = .returned (.string ⟨u.toArray⟩) ∧ w' = v := fun v => by rw [hu, ← trim_pad l (m - l.length), ← htt]; exact hT v
    have hS := fun (v : World) => trim_any ⟨l.toArray⟩ (by show l.length ≤ _; omega) v
    have hS2 : ∀ v, Calls Tryd.prog 11 #[.string ⟨l.toArray⟩] v fun e w' => e = .returned (.string ⟨u.toArray⟩) ∧ w' = v := fun v => by rw [hu]; exact hS v
    have HT := Lib.hid hT2
    have HS := Lib.hid hS2
    have hx2 : (⟨t.toArray⟩ : ByteArray).extract 0 l.length = ⟨l.toArray⟩ := by
      apply ByteArray.ext; rw [ByteArray.data_extract, htt]; simp
    have hul : u.length ≤ l.length := by rw [hu]; exact trimRightB_le _ _
    have hue := trim_end l
    rw [← hu] at hue
    have HC : Hid (∀ i (h : i < t.length), l.length ≤ i → t[i] = 32) := fun i h hi => by
      subst htt
      rw [List.getElem_append_right hi]; simp
    have HL := Lib.hid htl
    have hlm : l.length ≤ m := by omega
    have htm : t.length ≤ 64 := by omega
    have hlt0 : l.length ≤ t.length := by omega
    have htl2 : ((t.length : Int) != (m : Int)) = false := by rw [htl]; simp
    clear hP hT hT2 hS hS2 q1 q2 hu htt htl
    go_enter Tryd.func5, Tryd.ntmps5
    go_wp2_with (first
      | (go_at_call 7; refine (speaks_any _ ht).mono ?_; rintro e w1 ⟨rfl, hb1⟩)
      | (go_at_call 13; refine (HP.out _).mono ?_; rintro e w2 ⟨rfl, hb2⟩))
    go_loop [7] (fun i => ∃ k : Nat, l.length ≤ k ∧ k ≤ t.length ∧ i = .int .i64 k) (fun i => t.length - (intOf i).toNat)
    case atStart => exact ⟨l.length, Nat.le_refl _, by have := HL.out; omega, rfl⟩
    case round =>
      obtain ⟨k, hk1, hk2, rfl⟩ := hrel
      by_cases hlt : k < t.length
      · have hix : (⟨t.toArray⟩ : ByteArray)[k]'(by show k < t.toArray.size; simpa using hlt) = 32 := HC.out k hlt hk1
        go_wp2
        go_round
        case rel => exact ⟨k + 1, by omega, by omega, by go_num⟩
        case measure => simp [intOf]; omega
      · rcases hue with hue | ⟨v, c, hue, hc⟩
        · subst hue
          go_wp2_with (first
            | (go_at_call 11; (with_reducible refine (HT.out _).mono ?_); rintro e w5 ⟨rfl, rfl⟩)
            | (go_at_call 11; (with_reducible refine (HS.out _).mono ?_); rintro e w6 ⟨rfl, rfl⟩))
          go_ret
          exact ⟨rfl, below_step hb1 hb2⟩
        · subst hue
          have hv : v.length ≤ 40 := by simp at hul; omega
          have hiv : (⟨(v ++ [c]).toArray⟩ : ByteArray)[v.length]'(by show v.length < (v ++ [c]).toArray.size; simp) = c := by show (v ++ [c])[v.length]'_ = c; simp
          have hcn : ((c.toNat : Int) != 32) = true := by
            have : c.toNat ≠ 32 := fun h => hc (UInt8.toNat_inj.1 h)
            simp; omega
          have hul2 : decide ((v.length : Int) + 1 ≤ l.length) = true := by simp at hul; simp; omega
          go_wp2_with (first
            | (go_at_call 11; (with_reducible refine (HT.out _).mono ?_); rintro e w5 ⟨rfl, rfl⟩)
            | (go_at_call 11; (with_reducible refine (HS.out _).mono ?_); rintro e w6 ⟨rfl, rfl⟩))
          all_goals go_ret
          all_goals exact ⟨by simp, below_step hb1 hb2⟩
theorem puts_law (n : Nat) (hn : n < 18446744073709551616) (b wd : Int) (w : World) (ht : Tabs w) :
    Calls Tryd.prog 3 #[.int .u64 n, .int .i64 b, .int .i64 wd] w fun e w' => e = .returned (.bool true) ∧ Below w.heap.size w w' := by
  by_cases h8 : b = 8
  · subst h8; exact puts_8 n hn wd w ht
  · by_cases h10 : b = 10
    · subst h10; exact puts_10 n hn wd w ht
    · exact puts_other n hn b wd h8 h10 w ht
theorem widths_law (n : Nat) (hn : n < 18446744073709551616) (b wd : Int) (w : World) (ht : Tabs w) :
    Calls Tryd.prog 6 #[.int .u64 n, .int .i64 b, .int .i64 wd] w fun e w' => e = .returned (.bool true) ∧ Below w.heap.size w w' := by
  by_cases h8 : b = 8
  · subst h8; exact widths_8 n hn wd w ht
  · by_cases h10 : b = 10
    · subst h10; exact widths_10 n hn wd w ht
    · exact widths_other n b wd h8 h10 w ht
end Go.Proofs.YtnjaijmodkfnjaaDoor

/- Contracts over this translation: the document's letter of a symbol. -/
import Derived.Test.YtkbamfiokhmpjaaDoorXKdM27L
import Derived.Laws.IdiomStrings
import Derived.Lib.ConvBytes
import Derived.Deep.DeepCutAuto
namespace Go.Proofs.YtkbamfiokhmpjaaDoor
set_option linter.unusedVariables false
set_option linter.unusedSimpArgs false
open Go.RowKit Go.Proofs.YtkbamfiokhmpjaaDoorX.Kd Go.Proofs.YtkbamfiokhmpjaaDoorW.PrintWords Go.Proofs.YtkbamfiokhmpjaaDoorW.PrintLast Go.Proofs.YtkbamfiokhmpjaaDoorW.PrintMore

theorem bits_nat (n m : Nat) (hn : n < 18446744073709551616) (hm : m < 18446744073709551616) : bits .and .u64 (n : Int) (m : Int) = ((n &&& m : Nat) : Int) := by
  have h1 : (BitVec.ofInt 64 (n : Int)).toNat = n := by rw [BitVec.toNat_ofInt]; omega
  have h2 : (BitVec.ofInt 64 (m : Int)).toNat = m := by rw [BitVec.toNat_ofInt]; omega
  show IntKind.u64.wrap ((BitVec.ofInt 64 (n : Int) &&& BitVec.ofInt 64 (m : Int)).toNat : Nat) = _
  rw [BitVec.toNat_and, h1, h2, IntKind.wrap_u64]
  have : n &&& m ≤ n := Nat.and_le_left
  omega
theorem nat_and_pow (k i : Nat) : k &&& 2 ^ i = if k / 2 ^ i % 2 = 1 then 2 ^ i else 0 := by
  apply Nat.eq_of_testBit_eq
  intro j
  rw [Nat.testBit_and]
  by_cases h : i = j
  · subst h
    rw [Nat.testBit_two_pow_self, Bool.and_true, Nat.testBit_eq_decide_div_mod_eq]
    by_cases h2 : k / 2 ^ i % 2 = 1
    · rw [if_pos h2, decide_eq_true h2, Nat.testBit_two_pow_self]
    · rw [if_neg h2, decide_eq_false h2, Nat.zero_testBit]
  · rw [Nat.testBit_two_pow_of_ne h, Bool.and_false]
    split
    · rw [Nat.testBit_two_pow_of_ne h]
    · rw [Nat.zero_testBit]
theorem and_pow (n : Int) (h0 : 0 ≤ n) (h1 : n < 18446744073709551616) (i : Nat) (hi : i ≤ 10) : bits .and .u64 n ((2 ^ i : Nat) : Int) = if (n / ((2 ^ i : Nat) : Int)) % 2 = 1 then ((2 ^ i : Nat) : Int) else 0 := by
  obtain ⟨k, rfl⟩ : ∃ k : Nat, n = (k : Int) := ⟨n.toNat, by omega⟩
  have hp : 2 ^ i ≤ 2 ^ 10 := Nat.pow_le_pow_right (by decide) hi
  have hp2 : (2 : Nat) ^ 10 = 1024 := by decide
  rw [bits_nat k (2 ^ i) (by omega) (by omega), nat_and_pow]
  by_cases h : k / 2 ^ i % 2 = 1
  · rw [if_pos h, if_pos (by rw [← Int.natCast_ediv, show (2 : Int) = ((2 : Nat) : Int) from rfl, ← Int.natCast_emod, h]; rfl)]
  · rw [if_neg h, if_neg (fun h2 => h (by rw [← Int.natCast_ediv, show (2 : Int) = ((2 : Nat) : Int) from rfl, ← Int.natCast_emod] at h2; exact Int.ofNat.inj h2))]
    rfl
theorem and_low (n : Int) (h0 : 0 ≤ n) (h1 : n < 18446744073709551616) : bits .and .u64 n 15 = n % 16 := by
  obtain ⟨k, rfl⟩ : ∃ k : Nat, n = (k : Int) := ⟨n.toNat, by omega⟩
  rw [show (15 : Int) = ((15 : Nat) : Int) from rfl, bits_nat k 15 (by omega) (by omega), show (15 : Nat) = 2 ^ 4 - 1 from rfl, Nat.and_two_pow_sub_one_eq_mod]
  omega
theorem inSecB_div (x : S88) (h : 0 ≤ x.f2 ∧ x.f2 < 18446744073709551616) : inSecB x =
    if x.f2 / 2 % 2 = 1 then (if x.f1 = 8 then ⟨#[66]⟩ else if x.f2 / 4 % 2 = 1 then ⟨#[84]⟩ else if x.f2 % 2 = 1 then ⟨#[68]⟩ else ⟨#[82]⟩) else ⟨#[78]⟩ := by
  have e1 : bits .and .u64 x.f2 2 = if x.f2 / 2 % 2 = 1 then 2 else 0 := and_pow x.f2 h.1 h.2 1 (by decide)
  have e2 : bits .and .u64 x.f2 4 = if x.f2 / 4 % 2 = 1 then 4 else 0 := and_pow x.f2 h.1 h.2 2 (by decide)
  have e3 : bits .and .u64 x.f2 1 = if x.f2 % 2 = 1 then 1 else 0 := by
    have := and_pow x.f2 h.1 h.2 0 (by decide)
    simpa using this
  unfold inSecB
  rw [e1, e2, e3]
  by_cases c1 : x.f2 / 2 % 2 = 1
  · rw [if_pos c1, if_neg (by decide), if_pos c1]
    by_cases c0 : x.f1 = 8
    · rw [if_pos c0, if_pos c0]
    · rw [if_neg c0, if_neg c0]
      by_cases c2 : x.f2 / 4 % 2 = 1
      · rw [if_pos c2, if_neg (by decide), if_pos c2]
      · rw [if_neg c2, if_pos rfl, if_neg c2]
        by_cases c3 : x.f2 % 2 = 1
        · rw [if_pos c3, if_neg (by decide), if_pos c3]
        · rw [if_neg c3, if_pos rfl, if_neg c3]
  · rw [if_neg c1, if_pos rfl, if_neg c1]
set_option maxRecDepth 100000 in
set_option maxHeartbeats 16000000 in
theorem refLetter_any (b0 b1 : Bool) (m2 m3 m4 m5 m6 m7 m8 : Int) (LS : List S61) (hL : LS.length ≤ 1000) (hfl : ∀ x ∈ LS, 0 ≤ x.f2 ∧ x.f2 < 18446744073709551616) (A9 A10 : Option Addr) (c9 c10 n10 : Nat) (s : S50) (h1 : 0 ≤ s.f1 ∧ s.f1 < 18446744073709551616) (h5 : 0 ≤ s.f5) (w : World) (hC : Kd.C k61 w A9 LS.length LS) :
    Calls Tryd.prog 10 #[.agg #[.bool b0, .bool b1, .int .u8 m2, .int .u8 m3, .int .u64 m4, .int .u64 m5, .int .u64 m6, .int .u64 m7, .int .u64 m8, .slice A9 LS.length c9, .slice A10 n10 c10], .agg #[.string s.f0, .int .u64 s.f1, .int .u64 s.f2, .int .u64 s.f3, .int .u64 s.f4, .int .u64 s.f5, .bool s.f6]] w fun e w' => e = .returned (.string (letB (LS.map secT) s)) ∧ Below w.heap.size w w' := by
  have HC := Lib.hid hC
  have HFL := Lib.hid hfl
  obtain ⟨q, hq⟩ : ∃ q, q = s.f1 / 16 := ⟨_, rfl⟩
  obtain ⟨bi, hbi⟩ : ∃ bi, bi = q % 16 := ⟨_, rfl⟩
  have t1 : Int.tdiv s.f1 16 = q := by rw [Int.tdiv_eq_ediv_of_nonneg h1.1, hq]
  have t2 : Int.tmod q 16 = bi := by rw [Int.tmod_eq_emod_of_nonneg (by omega), hbi]
  have HBI := Lib.hid (show bindR s = bi by unfold bindR; rw [and_low _ (by omega) (by omega), ← hq, hbi])
  have hq0 : 0 ≤ q ∧ q < 18446744073709551616 := by omega
  have hb0 : 0 ≤ bi ∧ bi < 16 := by omega
  clear hC hfl hq hbi
  obtain ⟨n0, f1, f2, f3, f4, f5, f6⟩ := s
  simp only at h1 h5 t1 ⊢
  go_enter Tryd.func10, Tryd.ntmps10
  by_cases hU : f6 = false ∧ f5 = 0
  · obtain ⟨rfl, rfl⟩ := hU
    by_cases h2 : bi = 2
    · have HV := Lib.hid (show letB (LS.map secT) ⟨n0, f1, f2, f3, f4, 0, false⟩ = ⟨#[119]⟩ by unfold letB; rw [if_pos ⟨rfl, rfl⟩, HBI.out, if_pos h2])
      have h2b : (bi == 2) = true := beq_iff_eq.2 h2
      go_wp2
      go_ret
      exact ⟨by rw [HV.out]; rfl, below_alloc (below_alloc (Below.refl _ _) _) _⟩
    · have HV := Lib.hid (show letB (LS.map secT) ⟨n0, f1, f2, f3, f4, 0, false⟩ = ⟨#[85]⟩ by unfold letB; rw [if_pos ⟨rfl, rfl⟩, HBI.out, if_neg h2])
      have h2b : (bi == 2) = false := beq_eq_false_iff_ne.2 h2
      go_wp2
      go_ret
      exact ⟨by rw [HV.out]; rfl, below_alloc (below_alloc (Below.refl _ _) _) _⟩
  · have hu : (!f6 && f5 == 0) = false := by
      cases f6 with
      | true => rfl
      | false => simpa using fun h => hU ⟨rfl, h⟩
    by_cases h2 : bi = 2
    · have HV := Lib.hid (show letB (LS.map secT) ⟨n0, f1, f2, f3, f4, f5, f6⟩ = ⟨#[87]⟩ by unfold letB; rw [if_neg hU, HBI.out, if_pos h2])
      have h2b : (bi == 2) = true := beq_iff_eq.2 h2
      cases f6 with
      | true =>
        go_wp2
        go_ret
        exact ⟨by rw [HV.out]; rfl, below_alloc (below_alloc (Below.refl _ _) _) _⟩
      | false =>
        have h50 : f5 ≠ 0 := fun h => hU ⟨rfl, h⟩
        have h5b : (f5 == 0) = false := beq_eq_false_iff_ne.2 h50
        go_wp2
        go_ret
        exact ⟨by rw [HV.out]; rfl, below_alloc (below_alloc (Below.refl _ _) _) _⟩
    · have hws : ((LS.map secT).length : Int) = (LS.length : Int) := by rw [List.length_map]
      obtain ⟨wb, hwb⟩ : ∃ wb, wb = whereB (LS.map secT) ⟨n0, f1, f2, f3, f4, f5, f6⟩ := ⟨_, rfl⟩
      have HV := Lib.hid (show letB (LS.map secT) ⟨n0, f1, f2, f3, f4, f5, f6⟩ = if bi = 0 ∧ wb ≠ ⟨#[78]⟩ then lowB wb else wb by unfold letB; rw [if_neg hU, HBI.out, if_neg h2, ← hwb])
      have HWB := Lib.hid hwb
      have HIN := Lib.hid (show wb ∈ [(⟨#[78]⟩ : ByteArray), ⟨#[66]⟩, ⟨#[82]⟩, ⟨#[68]⟩, ⟨#[84]⟩, ⟨#[67]⟩, ⟨#[65]⟩] by rw [hwb]; exact whereB_in _ _)
      have h2b : (bi == 2) = false := beq_eq_false_iff_ne.2 h2
      have hw0 : IntKind.u64.wrap (LS.length : Int) = (LS.length : Int) := by rw [IntKind.wrap_u64]; omega
      clear hwb h2
      have HU := Lib.hid hU
      clear hU
      have hblk : ∀ (A B : Obj), (((w.alloc A).alloc B).heap[w.heap.size]? = some A ∧ ((w.alloc A).alloc B).heap[w.heap.size + 1]? = some B) := fun A B => ⟨blk_below (blk_new w A) ((Below.refl _ _).alloc (Nat.le_refl _) _), by have h := blk_new (w.alloc A) B; rw [World.size_alloc] at h; exact h⟩
      have HBK := Lib.hid hblk
      clear hblk
      cases f6 with
      | true =>
        go_upto_if 20 with (fail)
        go_cut [] (fun wx => Hid (Below w.heap.size w wx ∧ wx.heap[w.heap.size]? = some (.cells #[.bool b0, .bool b1, .int .u8 m2, .int .u8 m3, .int .u64 m4, .int .u64 m5, .int .u64 m6, .int .u64 m7, .int .u64 m8, .slice A9 LS.length c9, .slice A10 n10 c10] 34 (0, 0)) ∧ wx.heap[w.heap.size + 1]? = some (.cells #[.string n0, .int .u64 f1, .int .u64 f2, .int .u64 f3, .int .u64 f4, .int .u64 f5, .bool true] 37 (0, 0))))
        case first =>
          go_wp2
          go_meet
          case rel => exact Lib.hid ⟨below_alloc (below_alloc (Below.refl _ _) _) _, (HBK.out _ _).1, (HBK.out _ _).2⟩
        case rest =>
          clear HBK
          have HB := Lib.hid hcut.out.1
          have HM := Lib.hid hcut.out.2.1
          have HS := Lib.hid hcut.out.2.2
          clear hcut
          have hm9 := (blk_cell HM.out 9).trans rfl
          have hs5 := (blk_cell HS.out 5).trans rfl
          have hs6 := (blk_cell HS.out 6).trans rfl
          have fm9 := blk_frozen HM.out 9
          have fs5 := blk_frozen HS.out 5
          have fs6 := blk_frozen HS.out 6
          go_upto_if 26 with (fail)
          go_cut [6] (fun s6 wx => s6 = .string wb ∧ Hid (Below w.heap.size w wx))
          case first =>
            by_cases hc : f5 = 65522
            · have hcb : (f5 == 65522) = true := beq_iff_eq.2 hc
              have HE := Lib.hid (show wb = ⟨#[67]⟩ by rw [HWB.out]; unfold whereB; rw [if_pos rfl, if_pos hc])
              clear hc
              go_wp2
              go_meet
              case rel => exact ⟨by rw [HE.out], Lib.hid HB.out⟩
            · have hcb : (f5 == 65522) = false := beq_eq_false_iff_ne.2 hc
              have HE := Lib.hid (show wb = ⟨#[65]⟩ by rw [HWB.out]; unfold whereB; rw [if_pos rfl, if_neg hc])
              clear hc
              go_wp2
              go_meet
              case rel => exact ⟨by rw [HE.out], Lib.hid HB.out⟩
          case rest =>
            obtain ⟨rfl, HB⟩ := hcut
            by_cases hb : bi = 0
            · have hbb : (bi == 0) = true := beq_iff_eq.2 hb
              by_cases hN : wb = ⟨#[78]⟩
              · have HE := Lib.hid (show letB (LS.map secT) _ = wb from HV.out.trans (by rw [if_neg (fun h => h.2 hN)]))
                have hn1 : (wb.toList == ([78] : List UInt8)) = true := by rw [hN, Lib.toList_data]; exact beq_iff_eq.2 rfl
                have hn2 : (wb.toList != ([78] : List UInt8)) = false := by rw [bne, hn1]; rfl
                clear hb hN
                go_wp2
                go_ret
                exact ⟨by rw [HE.out]; rfl, HB.out⟩
              · have HE := Lib.hid (show letB (LS.map secT) _ = lowB wb from HV.out.trans (by rw [if_pos ⟨hb, hN⟩]))
                have hn1 : (wb.toList == ([78] : List UInt8)) = false := by
                  rw [beq_eq_false_iff_ne]
                  intro h
                  rw [Lib.toList_data] at h
                  exact hN (ByteArray.ext (Array.toList_inj.mp h))
                have hn2 : (wb.toList != ([78] : List UInt8)) = true := by rw [bne, hn1]; rfl
                have hmem := HIN.out
                simp only [List.mem_cons, List.not_mem_nil, or_false] at hmem
                have hc : ∃ c : UInt8, wb = ⟨#[c]⟩ ∧ (65 ≤ c.toNat ∧ c.toNat ≤ 90) := by
                  rcases hmem with h | h | h | h | h | h | h
                  · exact absurd h hN
                  all_goals exact ⟨_, h, by decide, by decide⟩
                obtain ⟨c, hc1, hc2⟩ := hc
                have hlow : lowB wb = ⟨#[c + 32]⟩ := by
                  rw [hc1]; unfold lowB
                  rcases hmem with h | h | h | h | h | h | h
                  · exact absurd h hN
                  all_goals (rw [hc1] at h; injection h with h; injection h with h; injection h with h; subst h; decide)
                have hcn : (c + 32).toNat = c.toNat + 32 := by
                  rw [UInt8.toNat_add]; show (c.toNat + 32) % 256 = _; omega
                rw [hlow] at HE
                have HCN := Lib.hid hcn
                have HC1 := Lib.hid hc1
                have HC2 := Lib.hid hc2
                clear hb hN hmem hlow hcn hc1 hc2
                go_upto_region 24 with (fail)
                go_cut [8] (fun s8 wx => ∃ (nb cap : Nat), s8 = .slice (some ⟨nb, 0, none⟩) 1 cap ∧ Hid (w.heap.size ≤ nb ∧ wx.cell? ⟨nb, 0, none⟩ = some (.int .u8 (c.toNat : Int)) ∧ wx.frozen? ⟨nb, 0, none⟩ = false ∧ Below w.heap.size w wx))
                case first =>
                  have hconv := Lib.run_convert_string_bytes (P := Tryd.prog) wc 9 91 5 wb Tryd.underlying9 Tryd.underlying91 Tryd.underlying5
                  go_wp2
                  go_meet
                  case rel =>
                    have hs1 : 0 < wb.size := by rw [HC1.out]; exact Nat.one_pos
                    refine ⟨wc.heap.size, grownCap wc wb.size 0 5, by rw [HC1.out]; rfl, Lib.hid ⟨HB.out.size, ?_, ?_, bytes_below HB.out HB.out.size _ _⟩⟩
                    · rw [Lib.bytesWorld_cell wc 5 wb 0 hs1, HC1.out]; rfl
                    · have hn : 0 < (Lib.bytesCells wc 5 wb).size := by
                        unfold Lib.bytesCells
                        rw [Array.size_append, Array.size_map]
                        exact Nat.lt_of_lt_of_le hs1 (Nat.le_add_right _ _)
                      unfold World.frozen?
                      rw [show (⟨wc.heap.size, 0, none⟩ : Addr).block = wc.heap.size from rfl, Lib.bytesWorld_at_new]
                      show (decide ((Lib.bytesCells wc 5 wb).size ≤ 0) && _) = false
                      rw [decide_eq_false (by omega)]
                      rfl
                case rest =>
                  obtain ⟨nb, cap, rfl, HH⟩ := hcut
                  obtain ⟨hnb, hc0, hf0, hbb1⟩ := HH.out
                  have HNB := Lib.hid hnb
                  have HBB := Lib.hid hbb1
                  have hv : ((c.toNat : Int) + 32) % 256 = ((c + 32).toNat : Int) := by
                    have := HC2.out
                    rw [HCN.out]; omega
                  have hconv : Sem.run Tryd.prog (convert 91 9 (.slice (some ⟨nb, 0, none⟩) 1 cap)) (wc.setCell ⟨nb, 0, none⟩ (.int .u8 (((c.toNat : Int) + 32) % 256))) = .ok (.string ⟨#[c + 32]⟩) (wc.setCell ⟨nb, 0, none⟩ (.int .u8 (((c.toNat : Int) + 32) % 256))) := by
                    refine run_convert_bytes_back _ _ _ 5 ⟨nb, 0, none⟩ cap [c + 32] Tryd.underlying91 Tryd.underlying5 Tryd.underlying9 ?_
                    intro j hj
                    have hj0 : j = 0 := by simpa using hj
                    subst hj0
                    rw [hv]
                    exact World.cell?_setCell_same (h := hc0) ..
                  clear hv
                  clear hnb hbb1 HH
                  go_wp2
                  go_ret
                  exact ⟨by rw [HE.out]; rfl, HBB.out.setCell HNB.out _⟩
            · have HE := Lib.hid (show letB (LS.map secT) _ = wb from HV.out.trans (by rw [if_neg (fun h => hb h.1)]))
              have hbb : (bi == 0) = false := beq_eq_false_iff_ne.2 hb
              clear hb
              go_wp2
              go_ret
              exact ⟨by rw [HE.out]; rfl, HB.out⟩
      | false =>
        have h50 : f5 ≠ 0 := fun h => HU.out ⟨rfl, h⟩
        have h5b : (f5 == 0) = false := beq_eq_false_iff_ne.2 h50
        clear h50
        go_upto_if 20 with (fail)
        go_cut [] (fun wx => Hid (Below w.heap.size w wx ∧ wx.heap[w.heap.size]? = some (.cells #[.bool b0, .bool b1, .int .u8 m2, .int .u8 m3, .int .u64 m4, .int .u64 m5, .int .u64 m6, .int .u64 m7, .int .u64 m8, .slice A9 LS.length c9, .slice A10 n10 c10] 34 (0, 0)) ∧ wx.heap[w.heap.size + 1]? = some (.cells #[.string n0, .int .u64 f1, .int .u64 f2, .int .u64 f3, .int .u64 f4, .int .u64 f5, .bool false] 37 (0, 0))))
        case first =>
          go_wp2
          go_meet
          case rel => exact Lib.hid ⟨below_alloc (below_alloc (Below.refl _ _) _) _, (HBK.out _ _).1, (HBK.out _ _).2⟩
        case rest =>
          clear HBK
          have HB := Lib.hid hcut.out.1
          have HM := Lib.hid hcut.out.2.1
          have HS := Lib.hid hcut.out.2.2
          clear hcut
          have hm9 := (blk_cell HM.out 9).trans rfl
          have hs5 := (blk_cell HS.out 5).trans rfl
          have hs6 := (blk_cell HS.out 6).trans rfl
          have fm9 := blk_frozen HM.out 9
          have fs5 := blk_frozen HS.out 5
          have fs6 := blk_frozen HS.out 6
          go_upto_if 26 with (fail)
          go_cut [6] (fun s6 wx => s6 = .string wb ∧ Hid (Below w.heap.size w wx))
          case first =>
            by_cases hlt : f5 < (LS.length : Int)
            · obtain ⟨ad, B10, e10, B11, e11, B12, e12, e9, hx0, hx1, hx2, hx3, hx4, hx5, hx6, hx7, hx8, hx9, hx10, hx11, hx12, _⟩ := at_T61 HC.out f5 h5 hlt
              cases e9
              obtain ⟨x, hx⟩ : ∃ x, x = rd_T61 LS f5 := ⟨_, rfl⟩
              have hrd : rd_T88 (LS.map secT) f5 = secT x := by
                rw [hx]; unfold rd_T88 rd_T61
                have hk : f5.toNat < LS.length := by omega
                rw [List.getD_eq_getElem?_getD, List.getD_eq_getElem?_getD, List.getElem?_map, List.getElem?_eq_getElem hk]; rfl
              have hfx : 0 ≤ (secT x).f2 ∧ (secT x).f2 < 18446744073709551616 := by
                rw [hx]; unfold rd_T61
                have hk : f5.toNat < LS.length := by omega
                rw [List.getD_eq_getElem?_getD, List.getElem?_eq_getElem hk]
                exact HFL.out _ (List.getElem_mem hk)
              rw [← hx] at hx0 hx1 hx2 hx3 hx4 hx5 hx6 hx7 hx8 hx9 hx10 hx11 hx12
              replace hx0 := (HB.out.cell (World.block_lt_of_cell? w _ hx0)).trans hx0
              replace hx1 := (HB.out.cell (World.block_lt_of_cell? w _ hx1)).trans hx1
              replace hx2 := (HB.out.cell (World.block_lt_of_cell? w _ hx2)).trans hx2
              replace hx3 := (HB.out.cell (World.block_lt_of_cell? w _ hx3)).trans hx3
              replace hx4 := (HB.out.cell (World.block_lt_of_cell? w _ hx4)).trans hx4
              replace hx5 := (HB.out.cell (World.block_lt_of_cell? w _ hx5)).trans hx5
              replace hx6 := (HB.out.cell (World.block_lt_of_cell? w _ hx6)).trans hx6
              replace hx7 := (HB.out.cell (World.block_lt_of_cell? w _ hx7)).trans hx7
              replace hx8 := (HB.out.cell (World.block_lt_of_cell? w _ hx8)).trans hx8
              replace hx9 := (HB.out.cell (World.block_lt_of_cell? w _ hx9)).trans hx9
              replace hx10 := (HB.out.cell (World.block_lt_of_cell? w _ hx10)).trans hx10
              replace hx11 := (HB.out.cell (World.block_lt_of_cell? w _ hx11)).trans hx11
              replace hx12 := (HB.out.cell (World.block_lt_of_cell? w _ hx12)).trans hx12
              obtain ⟨d1, hd1⟩ : ∃ d, d = x.f2 % 2 := ⟨_, rfl⟩
              obtain ⟨q2, hq2⟩ : ∃ d, d = x.f2 / 2 := ⟨_, rfl⟩
              obtain ⟨d2, hd2⟩ : ∃ d, d = q2 % 2 := ⟨_, rfl⟩
              obtain ⟨q4, hq4⟩ : ∃ d, d = x.f2 / 4 := ⟨_, rfl⟩
              obtain ⟨d4, hd4⟩ : ∃ d, d = q4 % 2 := ⟨_, rfl⟩
              have hx2n : 0 ≤ x.f2 := hfx.1
              have HW := Lib.hid (show wb = if d2 = 1 then (if x.f1 = 8 then ⟨#[66]⟩ else if d4 = 1 then ⟨#[84]⟩ else if d1 = 1 then ⟨#[68]⟩ else ⟨#[82]⟩) else ⟨#[78]⟩ by
                rw [HWB.out]; unfold whereB
                rw [if_neg Bool.false_ne_true, if_neg (by rw [hws]; exact Int.not_le.2 hlt)]
                show inSecB (rd_T88 (LS.map secT) f5) = _
                rw [hrd, inSecB_div _ hfx, hd2, hq2, hd4, hq4, hd1]; rfl)
              have tm1 : Int.tmod x.f2 2 = d1 := by rw [Int.tmod_eq_emod_of_nonneg hx2n, hd1]
              have td2 : Int.tdiv x.f2 2 = q2 := by rw [Int.tdiv_eq_ediv_of_nonneg hx2n, hq2]
              have tm2 : Int.tmod q2 2 = d2 := by rw [Int.tmod_eq_emod_of_nonneg (by omega), hd2]
              have td4 : Int.tdiv x.f2 4 = q4 := by rw [Int.tdiv_eq_ediv_of_nonneg hx2n, hq4]
              have tm4 : Int.tmod q4 2 = d4 := by rw [Int.tmod_eq_emod_of_nonneg (by omega), hd4]
              have w2 : IntKind.u64.wrap q2 = q2 := by rw [IntKind.wrap_u64]; have := hfx.2; simp only [secT] at this; omega
              have w4 : IntKind.u64.wrap q4 = q4 := by rw [IntKind.wrap_u64]; have := hfx.2; simp only [secT] at this; omega
              have p9 := eq_true h5
              have q9 := eq_true hlt
              clear hd1 hq2 hd2 hq4 hd4 hfx hrd hx hlt hx2n
              by_cases c2 : d2 = 1
              · have c2b : (d2 == 1) = true := beq_iff_eq.2 c2
                have C2 := Lib.hid c2
                clear c2
                by_cases c8 : x.f1 = 8
                · have c8b : (x.f1 == 8) = true := beq_iff_eq.2 c8
                  have C8 := Lib.hid c8
                  clear c8
                  by_cases c1 : d1 = 1 <;> by_cases c4 : d4 = 1
                  all_goals (first | have c1b : (d1 == 1) = true := beq_iff_eq.2 c1 | have c1b : (d1 == 1) = false := beq_eq_false_iff_ne.2 c1)
                  all_goals (first | have c4b : (d4 == 1) = true := beq_iff_eq.2 c4 | have c4b : (d4 == 1) = false := beq_eq_false_iff_ne.2 c4)
                  all_goals clear c1 c4
                  all_goals (
                    have HE := Lib.hid (show wb = ⟨#[66]⟩ by rw [HW.out, if_pos C2.out, if_pos C8.out])
                    clear HW
                    go_wp2
                    go_meet
                    case rel => exact ⟨by rw [HE.out], Lib.hid (by repeat (first | exact HB.out | (with_reducible refine below_alloc ?_ _) | (with_reducible refine pw_below_drewN ?_ _)))⟩
                    )
                · have c8b : (x.f1 == 8) = false := beq_eq_false_iff_ne.2 c8
                  have C8 := Lib.hid c8
                  clear c8
                  by_cases c4 : d4 = 1
                  · have c4b : (d4 == 1) = true := beq_iff_eq.2 c4
                    have C4 := Lib.hid c4
                    clear c4
                    by_cases c1 : d1 = 1
                    all_goals (first | have c1b : (d1 == 1) = true := beq_iff_eq.2 c1 | have c1b : (d1 == 1) = false := beq_eq_false_iff_ne.2 c1)
                    all_goals clear c1
                    all_goals (
                      have HE := Lib.hid (show wb = ⟨#[84]⟩ by rw [HW.out, if_pos C2.out, if_neg C8.out, if_pos C4.out])
                      clear HW
                      go_wp2
                      go_meet
                      case rel => exact ⟨by rw [HE.out], Lib.hid (by repeat (first | exact HB.out | (with_reducible refine below_alloc ?_ _) | (with_reducible refine pw_below_drewN ?_ _)))⟩
                      )
                  · have c4b : (d4 == 1) = false := beq_eq_false_iff_ne.2 c4
                    have C4 := Lib.hid c4
                    clear c4
                    by_cases c1 : d1 = 1
                    · have c1b : (d1 == 1) = true := beq_iff_eq.2 c1
                      have C1 := Lib.hid c1
                      clear c1
                      have HE := Lib.hid (show wb = ⟨#[68]⟩ by rw [HW.out, if_pos C2.out, if_neg C8.out, if_neg C4.out, if_pos C1.out])
                      clear HW
                      go_wp2
                      go_meet
                      case rel => exact ⟨by rw [HE.out], Lib.hid (by repeat (first | exact HB.out | (with_reducible refine below_alloc ?_ _) | (with_reducible refine pw_below_drewN ?_ _)))⟩
                    · have c1b : (d1 == 1) = false := beq_eq_false_iff_ne.2 c1
                      have C1 := Lib.hid c1
                      clear c1
                      have HE := Lib.hid (show wb = ⟨#[82]⟩ by rw [HW.out, if_pos C2.out, if_neg C8.out, if_neg C4.out, if_neg C1.out])
                      clear HW
                      go_wp2
                      go_meet
                      case rel => exact ⟨by rw [HE.out], Lib.hid (by repeat (first | exact HB.out | (with_reducible refine below_alloc ?_ _) | (with_reducible refine pw_below_drewN ?_ _)))⟩
              · have c2b : (d2 == 1) = false := beq_eq_false_iff_ne.2 c2
                have C2 := Lib.hid c2
                clear c2
                have HE := Lib.hid (show wb = ⟨#[78]⟩ by rw [HW.out, if_neg C2.out])
                clear HW
                go_wp2
                go_meet
                case rel => exact ⟨by rw [HE.out], Lib.hid (by repeat (first | exact HB.out | (with_reducible refine below_alloc ?_ _) | (with_reducible refine pw_below_drewN ?_ _)))⟩
            · have HE := Lib.hid (show wb = ⟨#[78]⟩ by rw [HWB.out]; unfold whereB; rw [if_neg Bool.false_ne_true, if_pos (by rw [hws]; exact Int.not_lt.1 hlt)])
              have hl2 := eq_false hlt
              clear hlt
              go_wp2
              go_meet
              case rel => exact ⟨by rw [HE.out], Lib.hid HB.out⟩
          case rest =>
            obtain ⟨rfl, HB⟩ := hcut
            by_cases hb : bi = 0
            · have hbb : (bi == 0) = true := beq_iff_eq.2 hb
              by_cases hN : wb = ⟨#[78]⟩
              · have HE := Lib.hid (show letB (LS.map secT) _ = wb from HV.out.trans (by rw [if_neg (fun h => h.2 hN)]))
                have hn1 : (wb.toList == ([78] : List UInt8)) = true := by rw [hN, Lib.toList_data]; exact beq_iff_eq.2 rfl
                have hn2 : (wb.toList != ([78] : List UInt8)) = false := by rw [bne, hn1]; rfl
                clear hb hN
                go_wp2
                go_ret
                exact ⟨by rw [HE.out]; rfl, HB.out⟩
              · have HE := Lib.hid (show letB (LS.map secT) _ = lowB wb from HV.out.trans (by rw [if_pos ⟨hb, hN⟩]))
                have hn1 : (wb.toList == ([78] : List UInt8)) = false := by
                  rw [beq_eq_false_iff_ne]
                  intro h
                  rw [Lib.toList_data] at h
                  exact hN (ByteArray.ext (Array.toList_inj.mp h))
                have hn2 : (wb.toList != ([78] : List UInt8)) = true := by rw [bne, hn1]; rfl
                have hmem := HIN.out
                simp only [List.mem_cons, List.not_mem_nil, or_false] at hmem
                have hc : ∃ c : UInt8, wb = ⟨#[c]⟩ ∧ (65 ≤ c.toNat ∧ c.toNat ≤ 90) := by
                  rcases hmem with h | h | h | h | h | h | h
                  · exact absurd h hN
                  all_goals exact ⟨_, h, by decide, by decide⟩
                obtain ⟨c, hc1, hc2⟩ := hc
                have hlow : lowB wb = ⟨#[c + 32]⟩ := by
                  rw [hc1]; unfold lowB
                  rcases hmem with h | h | h | h | h | h | h
                  · exact absurd h hN
                  all_goals (rw [hc1] at h; injection h with h; injection h with h; injection h with h; subst h; decide)
                have hcn : (c + 32).toNat = c.toNat + 32 := by
                  rw [UInt8.toNat_add]; show (c.toNat + 32) % 256 = _; omega
                rw [hlow] at HE
                have HCN := Lib.hid hcn
                have HC1 := Lib.hid hc1
                have HC2 := Lib.hid hc2
                clear hb hN hmem hlow hcn hc1 hc2
                go_upto_region 24 with (fail)
                go_cut [8] (fun s8 wx => ∃ (nb cap : Nat), s8 = .slice (some ⟨nb, 0, none⟩) 1 cap ∧ Hid (w.heap.size ≤ nb ∧ wx.cell? ⟨nb, 0, none⟩ = some (.int .u8 (c.toNat : Int)) ∧ wx.frozen? ⟨nb, 0, none⟩ = false ∧ Below w.heap.size w wx))
                case first =>
                  have hconv := Lib.run_convert_string_bytes (P := Tryd.prog) wc 9 91 5 wb Tryd.underlying9 Tryd.underlying91 Tryd.underlying5
                  go_wp2
                  go_meet
                  case rel =>
                    have hs1 : 0 < wb.size := by rw [HC1.out]; exact Nat.one_pos
                    refine ⟨wc.heap.size, grownCap wc wb.size 0 5, by rw [HC1.out]; rfl, Lib.hid ⟨HB.out.size, ?_, ?_, bytes_below HB.out HB.out.size _ _⟩⟩
                    · rw [Lib.bytesWorld_cell wc 5 wb 0 hs1, HC1.out]; rfl
                    · have hn : 0 < (Lib.bytesCells wc 5 wb).size := by
                        unfold Lib.bytesCells
                        rw [Array.size_append, Array.size_map]
                        exact Nat.lt_of_lt_of_le hs1 (Nat.le_add_right _ _)
                      unfold World.frozen?
                      rw [show (⟨wc.heap.size, 0, none⟩ : Addr).block = wc.heap.size from rfl, Lib.bytesWorld_at_new]
                      show (decide ((Lib.bytesCells wc 5 wb).size ≤ 0) && _) = false
                      rw [decide_eq_false (by omega)]
                      rfl
                case rest =>
                  obtain ⟨nb, cap, rfl, HH⟩ := hcut
                  obtain ⟨hnb, hc0, hf0, hbb1⟩ := HH.out
                  have HNB := Lib.hid hnb
                  have HBB := Lib.hid hbb1
                  have hv : ((c.toNat : Int) + 32) % 256 = ((c + 32).toNat : Int) := by
                    have := HC2.out
                    rw [HCN.out]; omega
                  have hconv : Sem.run Tryd.prog (convert 91 9 (.slice (some ⟨nb, 0, none⟩) 1 cap)) (wc.setCell ⟨nb, 0, none⟩ (.int .u8 (((c.toNat : Int) + 32) % 256))) = .ok (.string ⟨#[c + 32]⟩) (wc.setCell ⟨nb, 0, none⟩ (.int .u8 (((c.toNat : Int) + 32) % 256))) := by
                    refine run_convert_bytes_back _ _ _ 5 ⟨nb, 0, none⟩ cap [c + 32] Tryd.underlying91 Tryd.underlying5 Tryd.underlying9 ?_
                    intro j hj
                    have hj0 : j = 0 := by simpa using hj
                    subst hj0
                    rw [hv]
                    exact World.cell?_setCell_same (h := hc0) ..
                  clear hv
                  clear hnb hbb1 HH
                  go_wp2
                  go_ret
                  exact ⟨by rw [HE.out]; rfl, HBB.out.setCell HNB.out _⟩
            · have HE := Lib.hid (show letB (LS.map secT) _ = wb from HV.out.trans (by rw [if_neg (fun h => hb h.1)]))
              have hbb : (bi == 0) = false := beq_eq_false_iff_ne.2 hb
              clear hb
              go_wp2
              go_ret
              exact ⟨by rw [HE.out]; rfl, HB.out⟩
end Go.Proofs.YtkbamfiokhmpjaaDoor

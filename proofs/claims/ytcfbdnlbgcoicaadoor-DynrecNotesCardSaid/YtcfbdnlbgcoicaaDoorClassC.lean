/- Contract over this translation: class.Record. -/
import Derived.Test.YtcfbdnlbgcoicaaDoorClassB
import Derived.BigQuiet
import Derived.Deep.QuietTactic
namespace Go.Proofs.YtcfbdnlbgcoicaaDoor
set_option linter.unusedVariables false
set_option linter.unusedSimpArgs false
open Go.RowKit

/-- Do the numbers fit their bytes? -/
def allFit : List Nat → List Nat → Bool
  | z :: zs, n :: ns => fitsB n z && allFit zs ns
  | _, _ => true
theorem allFit_drop : ∀ (zs ns : List Nat) (k : Nat) (h1 : k < zs.length) (h2 : k < ns.length), allFit (zs.drop k) (ns.drop k) = (fitsB ns[k] zs[k] && allFit (zs.drop (k + 1)) (ns.drop (k + 1)))
  | z :: zs, n :: ns, 0, _, _ => rfl
  | z :: zs, n :: ns, k + 1, h1, h2 => by
    simpa using allFit_drop zs ns k (by simpa using h1) (by simpa using h2)
def recS (big wide : Bool) (zs ns : List Nat) : List UInt8 := if allFit (zs.map (szOf wide)) ns then fieldsL big (zs.map (szOf wide)) ns else []
theorem szOf_pos (wide : Bool) (z : Nat) (h : z ≤ 8) : 1 ≤ szOf wide z ∧ szOf wide z ≤ 8 := by
  unfold szOf wordN; split
  · split <;> omega
  · omega

set_option maxHeartbeats 2000000 in
theorem record_any (big wide : Bool) (zs ns : List Nat) (hz : ∀ z ∈ zs, z ≤ 8) (hns : ∀ n ∈ ns, n < 18446744073709551616) (hl : zs.length = ns.length) (hl2 : ns.length ≤ 100) (a1 a2 : Option Addr) (c1 c2 : Nat) (w : World)
    (hr1 : Rd w a1 (zs.map encI)) (hr2 : Rd w a2 (ns.map encU)) :
    Calls Tryd.prog 18 #[.agg #[.bool big, .bool wide], .slice a1 zs.length c1, .slice a2 ns.length c2] w fun e w' => e = .returned (.tuple #[.string ⟨(recS big wide zs ns).toArray⟩, .bool (allFit (zs.map (szOf wide)) ns)]) ∧ Below w.heap.size w w' := by
  have H1 := Lib.hid hr1
  have H2 := Lib.hid hr2
  have HZ := Lib.hid hz
  have HN := Lib.hid hns
  have HL := Lib.hid hl
  have hll : ((zs.length : Int) != (ns.length : Int)) = false := by rw [hl]; simp
  clear hr1 hr2 hz hns hl
  obtain ⟨yy, hyy⟩ : ∃ yy, yy = zs.map (szOf wide) := ⟨_, rfl⟩
  have hyl : yy.length = ns.length := by rw [hyy, List.length_map]; exact HL.out
  have HY := Lib.hid (show ∀ y ∈ yy, 1 ≤ y ∧ y ≤ 8 by
    intro y hy; rw [hyy] at hy; obtain ⟨z, hz, rfl⟩ := List.mem_map.1 hy; exact szOf_pos wide z (HZ.out z hz))
  have HS := Lib.hid (fun (W : World) (hW : Rd W a1 (zs.map encI)) => sizes_any big wide zs HZ.out (by have := HL.out; omega) a1 c1 W hW)
  unfold recS
  rw [← hyy]
  rw [← hyy] at HS
  clear hyy
  have HYL := Lib.hid hyl
  have HF := Lib.hid (fun (A1 A2 : Option Addr) (C1 C2 : Nat) (W : World) (q1 : Rd W A1 (yy.map encI)) (q2 : Rd W A2 (ns.map encU)) => fields_any big yy ns HY.out HN.out HYL.out hl2 A1 A2 C1 C2 W q1 q2)
  clear hyl
  obtain ⟨ok, hok⟩ : ∃ ok, ok = allFit yy ns := ⟨_, rfl⟩
  rw [← hok]
  obtain ⟨rs, hrs⟩ : ∃ rs, rs = (if ok = true then fieldsL big yy ns else []) := ⟨_, rfl⟩
  rw [← hrs]
  have HRS := Lib.hid hrs
  have HOK := Lib.hid hok
  clear hrs hok
  go_enter Tryd.func18, Tryd.ntmps18
  go_wp2_with (first
    | (go_at_call 34; refine (HS.out _ (H1.out.alloc _)).mono ?_; rintro e w1 h; obtain ⟨va, vc, rfl, hrd, hb⟩ := h; have HRD := Lib.hid hrd; have HB1 := Lib.hid hb; clear hrd hb; have hb0 : w1.cell? ⟨w.heap.size, 0, none⟩ = some (.bool big) := (HB1.out.cell (by simp)).trans (by rw [World.cell?_alloc_new]; rfl)))
  go_loop [25] (fun i => ∃ k : Nat, k ≤ ns.length ∧ i = .int .i64 k ∧ Hid (ok = allFit (yy.drop k) (ns.drop k))) (fun i => ns.length - (intOf i).toNat)
  case atStart => exact ⟨0, Nat.zero_le _, rfl, Lib.hid (by rw [HOK.out]; rfl)⟩
  case round =>
    obtain ⟨k, hk, rfl, HK⟩ := hrel
    by_cases hlt : k < ns.length
    · have hlt1 : k < yy.length := by have := HYL.out; omega
      obtain ⟨y, hyk⟩ : ∃ y, y = yy[k] := ⟨_, rfl⟩
      obtain ⟨n, hnk⟩ : ∃ n, n = ns[k] := ⟨_, rfl⟩
      have hy8 : 1 ≤ y ∧ y ≤ 8 := by rw [hyk]; exact HY.out _ (List.getElem_mem hlt1)
      obtain ⟨b1, o1, ha1, hcl1⟩ := HRD.out.at (by rw [List.length_map]; omega)
      obtain ⟨b2, o2, ha2, hcl2⟩ := ((H2.out.alloc _).below HB1.out).at (by rw [List.length_map]; omega)
      have q1 : w1.cell? ⟨b1, o1 + k, none⟩ = some (.int .i64 (y : Int)) := hcl1 k _ (by simp [hlt1, encI, ← hyk])
      have q2 : w1.cell? ⟨b2, o2 + k, none⟩ = some (.int .u64 (n : Int)) := hcl2 k _ (by simp [hlt, encU, ← hnk])
      subst ha1 ha2
      have HA := Lib.hid (allFit_drop yy ns k hlt1 hlt)
      rw [← hyk, ← hnk] at HA
      have t1 : decide ((y : Int) < 0) = false := decide_eq_false (by omega)
      have t2 : decide ((8 : Int) < (y : Int)) = false := decide_eq_false (by omega)
      have hkz : (k : Int) < (yy.length : Int) := by omega
      have hkn : (k : Int) < (ns.length : Int) := by omega
      clear hcl1 hcl2 hyk hnk
      have HFI := Lib.hid (fits_any n y (by omega))
      obtain ⟨fb, hfb⟩ : ∃ fb, fb = fitsB n y := ⟨_, rfl⟩
      rw [← hfb] at HFI HA
      clear hfb
      cases fb
      · have HE := Lib.hid (show ok = false by rw [HK.out, HA.out]; rfl)
        go_wp2_with (first | (go_at_call 35; refine (HFI.out _).mono ?_; rintro e w' ⟨rfl, rfl⟩))
        go_ret2
        exact ⟨by rw [HRS.out, HE.out]; rfl, ((Below.refl _ _).alloc (Nat.le_refl _) _).trans (HB1.out.mono (by simp))⟩
      · have HE := Lib.hid (show ok = allFit (yy.drop (k + 1)) (ns.drop (k + 1)) by rw [HK.out, HA.out]; rfl)
        go_wp2_with (first | (go_at_call 35; refine (HFI.out _).mono ?_; rintro e w' ⟨rfl, rfl⟩))
        exact ⟨⟨k + 1, by omega, by go_num, HE⟩, by simp [intOf]; omega⟩
    · obtain rfl : k = ns.length := by omega
      have HE := Lib.hid (show ok = true by rw [HK.out, List.drop_of_length_le (by have := HYL.out; omega), List.drop_of_length_le (by omega)]; rfl)
      have hyle : yy.length ≤ ns.length := by have := HYL.out; omega
      have r1 := Lib.hid HRD.out
      have r2 := Lib.hid ((H2.out.alloc (.cells #[.bool big, .bool wide] 27)).below HB1.out)
      go_wp2_with (first | (go_at_call 36; refine (HF.out _ _ _ _ _ r1.out r2.out).mono ?_; rintro e w2 ⟨rfl, hb2⟩))
      go_ret2
      exact ⟨by rw [HRS.out, HE.out]; rfl, (((Below.refl _ _).alloc (Nat.le_refl _) _).trans (HB1.out.mono (by simp))).trans (hb2.mono (by have := HB1.out.size; simp at this; omega))⟩
end Go.Proofs.YtcfbdnlbgcoicaaDoor

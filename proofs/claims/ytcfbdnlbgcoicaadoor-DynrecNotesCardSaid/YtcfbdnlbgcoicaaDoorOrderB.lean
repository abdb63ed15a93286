/- Contracts over this translation: order.Get: the number of bytes. -/
import Derived.Test.YtcfbdnlbgcoicaaDoorOrderA
namespace Go.Proofs.YtcfbdnlbgcoicaaDoor
set_option linter.unusedVariables false
set_option linter.unusedSimpArgs false
open Go.RowKit

/-- The number of the first k bytes. -/
def getN (f : Nat → Nat) : Nat → Nat
  | 0 => 0
  | k + 1 => getN f k + f k * 256 ^ k
def getL (big : Bool) (l : List UInt8) : Nat := getN (fun k => (l.getD (plc big l.length k) 0).toNat) l.length
theorem getN_lt (f : Nat → Nat) (hf : ∀ k, f k < 256) : ∀ k, getN f k < 256 ^ k
  | 0 => by simp [getN]
  | k + 1 => by
    have := getN_lt f hf k
    have h2 := hf k
    rw [getN, Nat.pow_succ]
    have : f k * 256 ^ k ≤ 255 * 256 ^ k := Nat.mul_le_mul_right _ (by omega)
    omega
theorem getN_congr (f g : Nat → Nat) : ∀ k, (∀ j, j < k → f j = g j) → getN f k = getN g k
  | 0, _ => rfl
  | k + 1, h => by rw [getN, getN, getN_congr f g k (fun j hj => h j (by omega)), h k (by omega)]
theorem getN_byt (n : Nat) : ∀ k, getN (byt n) k = n % 256 ^ k
  | 0 => by simp [getN, Nat.mod_one]
  | k + 1 => by
    rw [getN, getN_byt n k, byt, Nat.pow_succ, Nat.mod_mul]
    rw [Nat.mul_comm (n / 256 ^ k % 256)]
theorem getL_putL (big : Bool) (n size : Nat) : getL big (putL big n size) = n % 256 ^ size := by
  unfold getL
  rw [putL_length, ← getN_byt n size]
  refine getN_congr _ _ _ fun j hj => ?_
  have hp := plc_lt big hj
  rw [List.getD_eq_getElem?_getD]
  simp only [putL, List.getElem?_map, List.getElem?_range hp, Option.map_some, Option.getD_some]
  rw [UInt8.toNat_ofNat_of_lt' (byt_lt _ _), plc_plc big hj]
theorem getL_lt (big : Bool) (l : List UInt8) : getL big l < 256 ^ l.length := getN_lt _ (fun k => UInt8.toNat_lt _) _

theorem or_byte (a c k : Nat) (ha : a < 256 ^ k) (hc : c < 256) (hk : k ≤ 7) :
    bits .or .u64 (a : Int) (IntKind.u64.wrap (IntKind.u64.wrap (c : Int) * 2 ^ (8 * k))) = ((a + c * 256 ^ k : Nat) : Int) := by
  have e : (2 : Int) ^ (8 * k) = ((256 ^ k : Nat) : Int) := by
    rw [show (256 : Nat) = 2 ^ 8 from rfl, ← Nat.pow_mul]; simp
  have hp : (256 : Nat) ^ k ≤ 256 ^ 7 := Nat.pow_le_pow_right (by decide) hk
  have h1 : c * 256 ^ k ≤ 255 * 256 ^ k := Nat.mul_le_mul_right _ (by omega)
  have h2 : c * 256 ^ k < 18446744073709551616 := by
    have : (256 : Nat) ^ 7 = 72057594037927936 := by decide
    omega
  have h3 : a < 18446744073709551616 := by
    have : (256 : Nat) ^ 7 = 72057594037927936 := by decide
    omega
  have w1 : IntKind.u64.wrap (c : Int) = c := by rw [IntKind.wrap_u64]; omega
  rw [w1, e, ← Int.natCast_mul]
  have w2 : IntKind.u64.wrap ((c * 256 ^ k : Nat) : Int) = ((c * 256 ^ k : Nat) : Int) := by rw [IntKind.wrap_u64]; omega
  rw [w2, (bits_nat .u64 64 (by decide) (fun n h0 h1 => by rw [IntKind.wrap_u64]; omega) a (c * 256 ^ k) h3 h2).2]
  congr 1
  rw [show (256 : Nat) ^ k = 2 ^ (8 * k) by rw [show (256 : Nat) = 2 ^ 8 from rfl, ← Nat.pow_mul]] at ha ⊢
  rw [Nat.or_comm, Nat.mul_comm, ← Nat.two_pow_add_eq_or_of_lt ha, Nat.add_comm]

set_option maxHeartbeats 1000000 in
theorem get_any (big : Bool) (l : List UInt8) (hl : l.length ≤ 8) (w : World) :
    Calls Tryd.prog 39 #[.agg #[.bool big], .string ⟨l.toArray⟩] w fun e w' => e = .returned (.int .u64 ((getL big l : Nat) : Int)) ∧ Below w.heap.size w w' := by
  obtain ⟨f, hf⟩ : ∃ f : Nat → Nat, f = fun k => (l.getD (plc big l.length k) 0).toNat := ⟨_, rfl⟩
  have hL : getL big l = getN f l.length := by rw [hf]; rfl
  rw [hL]
  have hf8 : ∀ k, f k < 256 := fun k => by rw [hf]; exact UInt8.toNat_lt _
  have HF8 := Lib.hid hf8
  have HFF := Lib.hid hf
  clear hL hf8 hf
  go_enter Tryd.func39, Tryd.ntmps39
  go_wp2
  go_loopw [5, 12] (fun v i wr => ∃ k : Nat, k ≤ l.length ∧ v = .int .u64 ((getN f k : Nat) : Int) ∧ i = .int .i64 k ∧ Hid (wr.cell? ⟨w.heap.size, 0, none⟩ = some (.bool big)) ∧ Hid (Below w.heap.size w wr) ∧ w.heap.size < wr.heap.size) (fun _ i _ => l.length - (intOf i).toNat)
  case atStart =>
    refine ⟨0, Nat.zero_le _, rfl, rfl, ?_, ?_, ?_⟩
    · exact Lib.hid (by rw [World.cell?_alloc_new]; rfl)
    · exact Lib.hid ((Below.refl _ _).alloc (Nat.le_refl _) _)
    · simp
  case round =>
    obtain ⟨k, hk, rfl, rfl, HC, HB, hsz0⟩ := hrel
    by_cases hlt : k < l.length
    · have hp := plc_lt big hlt
      have hbox := HC.out
      have hw8 : IntKind.i64.wrap (8 * (k : Int)) = 8 * (k : Int) := by rw [IntKind.wrap_i64]; omega
      have hk8 : 0 ≤ 8 * (k : Int) := by omega
      have hp0 : 0 ≤ ((plc big l.length k : Nat) : Int) := by omega
      have hp1 : ((plc big l.length k : Nat) : Int) < (l.length : Int) := by omega
      obtain ⟨c, hc⟩ : ∃ c, c = l[plc big l.length k] := ⟨_, rfl⟩
      have hix : (⟨l.toArray⟩ : ByteArray)[plc big l.length k]'(by show _ < l.toArray.size; simpa using hp) = c := hc.symm
      have hfk := Lib.hid (show f k = c.toNat by rw [HFF.out, hc]; simp [List.getD_eq_getElem?_getD, hp])
      clear hc
      go_wp2_with (first | (go_at_call 54; refine (place_any big k l.length hlt (by omega) _).mono ?_; rintro e w' ⟨rfl, rfl⟩))
      have hlt2 := getN_lt f HF8.out k
      refine ⟨⟨k + 1, by omega, congrArg (Value.int .u64) ?_, by go_num, ?_, ?_, by simp; omega⟩, by simp [intOf]; omega⟩
      · rw [or_byte _ _ _ hlt2 c.toNat_lt (by omega), getN, hfk.out]
      · exact Lib.hid (by rw [World.cell?_alloc_past _ _ _ hsz0]; exact hbox)
      · exact Lib.hid (HB.out.alloc HB.out.size _)
    · obtain rfl : k = l.length := by omega
      go_wp2
      go_ret
      exact ⟨rfl, HB.out⟩
end Go.Proofs.YtcfbdnlbgcoicaaDoor

/- Contracts over this translation: a symbol's letter. -/
import Derived.Test.YtkbamfiokhmpjaaGreatDoorXKdMPL
import Derived.Test.YtkbamfiokhmpjaaGreatDoorXKdx9
namespace Go.Proofs.YtkbamfiokhmpjaaGreatDoor
set_option linter.unusedVariables false
set_option linter.unusedSimpArgs false
open Go.RowKit Go.Proofs.YtkbamfiokhmpjaaGreatDoorX.Kd Go.Proofs.YtkbamfiokhmpjaaGreatDoorW.PrintWords Go.Proofs.YtkbamfiokhmpjaaGreatDoorW.PrintLast Go.Proofs.YtkbamfiokhmpjaaGreatDoorW.PrintMore

def bindR (x : S81) : Int := Go.bits .and .u64 (x.f1 / 16) 15
/-- The letter of a symbol by its section. -/
def inSecB (x : S80) : ByteArray :=
  if (Go.bits .and .u64 x.f2 2) = 0 then ⟨#[78]⟩ else if x.f1 = 8 then ⟨#[66]⟩ else if (Go.bits .and .u64 x.f2 4) = 0 then (if (Go.bits .and .u64 x.f2 1) = 0 then ⟨#[82]⟩ else ⟨#[68]⟩) else ⟨#[84]⟩
def whereB (L : List S80) (s : S81) : ByteArray :=
  if s.f6 = true then (if s.f5 = 65522 then ⟨#[67]⟩ else ⟨#[65]⟩) else if (L.length : Int) ≤ s.f5 then ⟨#[78]⟩ else inSecB (rd_T80 L s.f5)
def lowB (l : ByteArray) : ByteArray := ⟨(Lib.toLowerA l.data.toList).toArray⟩
/-- The letter of a symbol. -/
def letB (L : List S80) (s : S81) : ByteArray :=
  if s.f6 = false ∧ s.f5 = 0 then (if bindR s = 2 then ⟨#[119]⟩ else ⟨#[85]⟩)
  else if bindR s = 2 then ⟨#[87]⟩
  else if bindR s = 0 ∧ whereB L s ≠ ⟨#[78]⟩ then lowB (whereB L s) else whereB L s
theorem inSecB_in (x : S80) : inSecB x ∈ [(⟨#[78]⟩ : ByteArray), ⟨#[66]⟩, ⟨#[82]⟩, ⟨#[68]⟩, ⟨#[84]⟩] := by
  unfold inSecB
  split
  · simp
  · split
    · simp
    · split
      · split <;> simp
      · simp
theorem whereB_in (L : List S80) (s : S81) : whereB L s ∈ [(⟨#[78]⟩ : ByteArray), ⟨#[66]⟩, ⟨#[82]⟩, ⟨#[68]⟩, ⟨#[84]⟩, ⟨#[67]⟩, ⟨#[65]⟩] := by
  unfold whereB
  split
  · split <;> simp
  · split
    · simp
    · have h := inSecB_in (rd_T80 L s.f5)
      simp only [List.mem_cons, List.not_mem_nil, or_false] at h ⊢
      rcases h with h | h | h | h | h <;> simp [h]
theorem where_f (k : Nat) (big wide : Bool) (abi ver : Int) (pad : ByteArray) (ty mc en fg nm : Int) (L : List S80) (D : List S83) (s : S81) (h5 : 0 ≤ s.f5) (hL : L.length ≤ 1000) :
    nm_where.f (k + 1) big wide abi ver pad ty mc en fg nm L D s.f0 s.f1 s.f2 s.f3 s.f4 s.f5 s.f6 = some (whereB L s) := by
  have hw : IntKind.u64.wrap (L.length : Int) = (L.length : Int) := by rw [IntKind.wrap_u64]; omega
  unfold nm_where.f
  by_cases h6 : s.f6 = true
  · rw [if_pos h6, nm_where.j0]
    unfold whereB
    rw [if_pos h6]
    by_cases h : s.f5 = 65522
    · rw [if_pos (by simp [h]), if_pos h, if_pos h6]
    · rw [if_neg (by simp [h]), if_neg h, if_pos h6]
  · rw [if_neg h6, nm_where.j0]
    unfold whereB
    rw [if_neg (by decide : ¬ (false = true)), if_neg h6, if_neg h6, hw]
    by_cases h : (L.length : Int) ≤ s.f5
    · rw [if_pos (show s.f5 ≥ (L.length : Int) from h), if_pos h]
    · rw [if_neg (show ¬ s.f5 ≥ (L.length : Int) from h), if_neg h, if_pos h5, if_pos (by omega)]
      unfold nm_inSection.f inSecB
      repeat' split
      all_goals first | rfl | contradiction
theorem letter_f (k : Nat) (big wide : Bool) (abi ver : Int) (pad : ByteArray) (ty mc en fg nm : Int) (L : List S80) (D : List S83) (s : S81) (h5 : 0 ≤ s.f5) (hL : L.length ≤ 1000) :
    nm_Letter.f (k + 1 + 1 + 1) big wide abi ver pad ty mc en fg nm L D s.f0 s.f1 s.f2 s.f3 s.f4 s.f5 s.f6 = some (letB L s) := by
  have hb : nm_bind.f s.f0 s.f1 s.f2 s.f3 s.f4 s.f5 s.f6 = some (bindR s) := rfl
  have hwh := where_f k big wide abi ver pad ty mc en fg nm L D s h5 hL
  have hin := whereB_in L s
  have hlow : ∀ l ∈ [(⟨#[78]⟩ : ByteArray), ⟨#[66]⟩, ⟨#[82]⟩, ⟨#[68]⟩, ⟨#[84]⟩, ⟨#[67]⟩, ⟨#[65]⟩], strings_ToLower.f l = some (lowB l) := by
    intro l hl
    unfold strings_ToLower.f
    refine (if_pos ?_).trans rfl
    simp only [List.mem_cons, List.not_mem_nil, or_false] at hl
    rcases hl with rfl | rfl | rfl | rfl | rfl | rfl | rfl <;> decide
  have hN : ∀ l : ByteArray, (l.toList = ([78] : List UInt8)) ↔ l = ⟨#[78]⟩ := by
    intro l
    rw [Lib.toList_data]
    constructor
    · intro h
      cases l with | mk d => simp only at h; rw [show d = #[78] from Array.toList_inj.1 h]
    · intro h
      rw [h]
  have hlast : ((some (whereB L s)).bind fun t265 => ((some (bindR s)).bind fun t266 => (if t266 = 0 then (if t265.toList = ([78] : List UInt8) then (some t265) else ((strings_ToLower.f t265).bind fun t267 => (some t267))) else (some t265)))) = some (if bindR s = 0 ∧ whereB L s ≠ ⟨#[78]⟩ then lowB (whereB L s) else whereB L s) := by
    simp only [Option.bind_some]
    by_cases hb0 : bindR s = 0
    · rw [if_pos hb0]
      by_cases hn : whereB L s = ⟨#[78]⟩
      · rw [if_pos ((hN _).2 hn), if_neg (fun h => h.2 hn)]
      · rw [if_neg (fun h => hn ((hN _).1 h)), if_pos ⟨hb0, hn⟩, hlow _ hin]; rfl
    · rw [if_neg hb0, if_neg (fun h => hb0 h.1)]
  unfold nm_Letter.f letB
  rw [hb]
  simp only [Option.bind_some]
  by_cases h6 : s.f6 = true
  · rw [if_pos h6, if_neg (by rw [h6]; simp), nm_Letter.j0, if_neg (by decide : ¬ (false = true)), nm_Letter.j1, if_neg (by decide : ¬ (false = true)), if_neg (by decide : ¬ (false = true))]
    by_cases h2 : bindR s = 2
    · rw [if_pos (by simp [h2]), if_pos h2]
    · rw [if_neg (by simp [h2]), if_neg h2, hwh, hb]
      exact hlast
  · have h6f : s.f6 = false := Bool.eq_false_iff.2 h6
    rw [if_neg h6, nm_Letter.j0]
    by_cases h0 : s.f5 = 0
    · rw [if_pos (by simp [h0]), if_pos ⟨h6f, h0⟩, nm_Letter.j1]
      by_cases h2 : bindR s = 2
      · rw [if_pos (by simp [h2]), if_pos h2]
      · rw [if_neg (by simp [h2]), if_pos (by simp [h0]), if_neg h2]
    · rw [if_neg (by simp [h0]), if_neg (fun h => h0 h.2), nm_Letter.j1, if_neg (by decide : ¬ (false = true)), if_neg (by simp [h0])]
      by_cases h2 : bindR s = 2
      · rw [if_pos (by simp [h2]), if_pos h2]
      · rw [if_neg (by simp [h2]), if_neg h2, hwh, hb]
        exact hlast
theorem letter_any (a : MdD) (hL : a.L.length ≤ 1000) (A9 A10 : Option Addr) (c9 c10 : Nat) (l9 : a.L.length ≤ c9) (l10 : a.D.length ≤ c10) (s : S81) (h5 : 0 ≤ s.f5) (w : World) (hA9 : Kd.C k80 w A9 a.L.length a.L) (hA10 : Kd.C k83 w A10 a.D.length a.D) :
    Calls Tryz.prog 32 #[.agg #[.bool a.big, .bool a.wide, .int .u8 a.abi, .int .u8 a.ver, .string a.pad, .int .u64 a.ty, .int .u64 a.mc, .int .u64 a.en, .int .u64 a.fg, .int .u64 a.nm, .slice A9 a.L.length c9, .slice A10 a.D.length c10], .agg #[.string s.f0, .int .u64 s.f1, .int .u64 s.f2, .int .u64 s.f3, .int .u64 s.f4, .int .u64 s.f5, .bool s.f6]] w fun e w' => e = .returned (.string (letB a.L s)) ∧ Below w.heap.size w w' :=
  nm_Letter.calls (0 + 1 + 1 + 1) a.big a.wide a.abi a.ver a.pad a.ty a.mc a.en a.fg a.nm A9 c9 a.L A10 c10 a.D s.f0 s.f1 s.f2 s.f3 s.f4 s.f5 s.f6 _ w hA9 l9 hA10 l10 (letter_f 0 a.big a.wide a.abi a.ver a.pad a.ty a.mc a.en a.fg a.nm a.L a.D s h5 hL)
end Go.Proofs.YtkbamfiokhmpjaaGreatDoor

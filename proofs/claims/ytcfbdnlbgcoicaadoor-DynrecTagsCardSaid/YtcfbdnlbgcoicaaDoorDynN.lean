/- Plain laws of the tags' names. -/
import Derived.Test.YtcfbdnlbgcoicaaDoorDynL
import Derived.MapKept
namespace Go.Proofs.YtcfbdnlbgcoicaaDoor
set_option linter.unusedVariables false
set_option linter.unusedSimpArgs false

theorem dch_inj16 : ∀ x y : Fin 16, dch x.val = dch y.val → x = y := by decide +kernel
theorem bdig_ne (b u : Nat) : bdig b u ≠ [] := by rw [bdig]; split <;> simp
theorem bdig16_inj : ∀ u v : Nat, bdig 16 u = bdig 16 v → u = v := by
  intro u
  induction u using Nat.strongRecOn with
  | ind u ih =>
    intro v h
    by_cases hu : u < 16
    · rw [bdig_small hu] at h
      by_cases hv : v < 16
      · rw [bdig_small hv] at h
        have := dch_inj16 ⟨u, hu⟩ ⟨v, hv⟩ (by simpa using h)
        simpa using this
      · rw [bdig_big (by decide) (by omega)] at h
        have h2 := congrArg List.length h
        have h3 : 0 < (bdig 16 (v / 16)).length := List.length_pos_iff.2 (bdig_ne _ _)
        simp at h2
        exact absurd h2 (bdig_ne _ _)
    · rw [bdig_big (u := u) (by decide) (by omega)] at h
      by_cases hv : v < 16
      · rw [bdig_small hv] at h
        have h2 := congrArg List.length h
        simp at h2
        exact absurd h2 (bdig_ne _ _)
      · rw [bdig_big (u := v) (by decide) (by omega)] at h
        have h2 := List.append_inj' h (by simp)
        have e1 := ih (u / 16) (by omega) (v / 16) h2.1
        have e2 := dch_inj16 ⟨u % 16, by omega⟩ ⟨v % 16, by omega⟩ (by simpa using h2.2)
        have e3 : u % 16 = v % 16 := by simpa using e2
        omega
theorem tags_nodup : ∀ i j : Fin 25, tagsL.getD i.val [] = tagsL.getD j.val [] → i = j := by decide +kernel
theorem tags_no0x : ∀ i : Fin 25, (tagsL.getD i.val []).take 2 ≠ [48, 120] ∧ 2 ≤ (tagsL.getD i.val []).length := by decide +kernel
theorem tagName_take (n : Nat) : ((tagName n).take 2 = [48, 120] ↔ 24 < n) ∧ 2 ≤ (tagName n).length := by
  unfold tagName
  by_cases h : n < 25
  · rw [if_pos h]
    have := tags_no0x ⟨n, h⟩
    exact ⟨⟨fun q => absurd q this.1, fun q => by omega⟩, this.2⟩
  · rw [if_neg h]
    exact ⟨⟨fun _ => by omega, fun _ => rfl⟩, by simp⟩
theorem tagName_inj (a b : Nat) : tagName a = tagName b ↔ a = b := by
  constructor
  · intro h
    have ta := (tagName_take a).1
    have tb := (tagName_take b).1
    rw [h] at ta
    unfold tagName at h
    by_cases ha : a < 25
    · by_cases hb : b < 25
      · rw [if_pos ha, if_pos hb] at h
        have := tags_nodup ⟨a, ha⟩ ⟨b, hb⟩ h
        simpa using this
      · exact absurd (ta.1 (tb.2 (by omega))) (by omega)
    · by_cases hb : b < 25
      · exact absurd (tb.1 (ta.2 (by omega))) (by omega)
      · rw [if_neg ha, if_neg hb] at h
        exact bdig16_inj a b (List.append_cancel_left h)
  · intro h; rw [h]
theorem ba_beq (x y : List UInt8) : ((⟨x.toArray⟩ : ByteArray) == ⟨y.toArray⟩) = decide (x = y) := by
  by_cases h : x = y
  · rw [decide_eq_true h]
    exact (MapKept.bytes_beq _ _).2 (by rw [h])
  · rw [decide_eq_false h]
    apply Bool.eq_false_iff.2
    intro q
    apply h
    have := congrArg ByteArray.data ((MapKept.bytes_beq _ _).1 q)
    simpa using this
end Go.Proofs.YtcfbdnlbgcoicaaDoor

/- Plain laws of layer 10's notes: bytes and back. -/
import Derived.Test.YtcfbdnlbgcoicaaDoorDynI
namespace Go.Proofs.YtcfbdnlbgcoicaaDoor
set_option linter.unusedVariables false
set_option linter.unusedSimpArgs false
open Go.RowKit

theorem noteR_cons (big : Bool) (f ty : Nat) (name desc P Q rest : List UInt8) (hn : name.length < 4294967296) (hd : desc.length < 4294967296) (ht : ty < 4294967296) (hP : P.length = (padZ (name.length % 4)).length) (hQ : Q.length = (padZ (desc.length % 4)).length) :
    noteR big (f + 1) (putL big name.length 4 ++ (putL big desc.length 4 ++ (putL big ty 4 ++ (name ++ (P ++ (desc ++ (Q ++ rest))))))) =
      if (P ++ Q).all (· == 0) = true then
        match noteR big f rest with
        | .ok r => .ok (⟨ty, name, desc⟩ :: r)
        | .error c => .error c
      else .error 6 := by
  have l1 := putL_length big name.length 4
  have l2 := putL_length big desc.length 4
  have l3 := putL_length big ty 4
  have g1 : getL big (putL big name.length 4) = name.length := by rw [getL_putL, Nat.mod_eq_of_lt (by simpa using hn)]
  have g2 : getL big (putL big desc.length 4) = desc.length := by rw [getL_putL, Nat.mod_eq_of_lt (by simpa using hd)]
  have g3 : getL big (putL big ty 4) = ty := by rw [getL_putL, Nat.mod_eq_of_lt (by simpa using ht)]
  obtain ⟨A, hA⟩ : ∃ A, A = putL big name.length 4 := ⟨_, rfl⟩
  obtain ⟨B, hB⟩ : ∃ B, B = putL big desc.length 4 := ⟨_, rfl⟩
  obtain ⟨C, hC⟩ : ∃ C, C = putL big ty 4 := ⟨_, rfl⟩
  rw [← hA] at l1 g1
  rw [← hB] at l2 g2
  rw [← hC] at l3 g3
  rw [← hA, ← hB, ← hC]
  obtain ⟨s, hs⟩ : ∃ s, s = A ++ (B ++ (C ++ (name ++ (P ++ (desc ++ (Q ++ rest)))))) := ⟨_, rfl⟩
  rw [← hs]
  have d4 : s.drop 4 = B ++ (C ++ (name ++ (P ++ (desc ++ (Q ++ rest))))) := by rw [hs]; exact List.drop_left' l1
  have d8 : s.drop 8 = C ++ (name ++ (P ++ (desc ++ (Q ++ rest)))) := by rw [show 8 = 4 + 4 by rfl, ← List.drop_drop, d4]; exact List.drop_left' l2
  have d12 : s.drop 12 = name ++ (P ++ (desc ++ (Q ++ rest))) := by rw [show 12 = 8 + 4 by rfl, ← List.drop_drop, d8]; exact List.drop_left' l3
  have dn : s.drop (12 + name.length) = P ++ (desc ++ (Q ++ rest)) := by rw [← List.drop_drop, d12]; exact List.drop_left' rfl
  have dp : s.drop (12 + name.length + P.length) = desc ++ (Q ++ rest) := by rw [← List.drop_drop, dn]; exact List.drop_left' rfl
  have dd : s.drop (12 + name.length + P.length + desc.length) = Q ++ rest := by rw [← List.drop_drop, dp]; exact List.drop_left' rfl
  have dq : s.drop (12 + name.length + P.length + desc.length + Q.length) = rest := by rw [← List.drop_drop, dd]; exact List.drop_left' rfl
  have t0 : s.take 4 = A := by rw [hs]; exact List.take_left' l1
  have t4 : (s.drop 4).take 4 = B := by rw [d4]; exact List.take_left' l2
  have t8 : (s.drop 8).take 4 = C := by rw [d8]; exact List.take_left' l3
  have hlen : s.length = 12 + name.length + P.length + desc.length + Q.length + rest.length := by
    rw [hs]; simp only [List.length_append]; omega
  rw [noteR]
  rw [if_neg (by omega)]
  simp only [t0, t4, t8, g1, g2, g3]
  rw [← hP, ← hQ, if_neg (by omega), dn, dd, dq, d12, dp]
  rw [List.take_left' (l₁ := P) rfl, List.take_left' (l₁ := Q) rfl, List.take_left' (l₁ := name) rfl, List.take_left' (l₁ := desc) rfl]
  rfl
theorem noteR_nil (big : Bool) (f : Nat) : noteR big (f + 1) [] = .ok [] := by simp [noteR]
theorem padZ_mod (n : Nat) : padZ (n % 4) = padZ n := by unfold padZ; rw [Nat.mod_mod]
theorem szOf4 (wide : Bool) : [4, 4, 4].map (szOf wide) = [4, 4, 4] := by cases wide <;> rfl
theorem noteFit_iff (wide : Bool) (e : NoteD) (hn : e.name.length < 4294967296) (hd : e.desc.length < 4294967296) : noteFit wide e = decide (e.ty < 4294967296) := by
  unfold noteFit noteH
  rw [szOf4]
  simp [allFit, fitsB, hn, hd]
theorem noteL_eq (big wide : Bool) (e : NoteD) (h : noteFit wide e = true) : noteL big wide e = putL big e.name.length 4 ++ (putL big e.desc.length 4 ++ (putL big e.ty 4 ++ (e.name ++ (padZ e.name.length ++ (e.desc ++ padZ e.desc.length))))) := by
  unfold noteL recS
  unfold noteFit at h
  rw [if_pos h, szOf4]
  unfold noteH
  simp [fieldsL, List.append_assoc]
theorem noteR_flat (big wide : Bool) (es : List NoteD) (hs : ∀ e ∈ es, e.name.length < 4294967296 ∧ e.desc.length < 4294967296 ∧ e.ty < 4294967296) : ∀ f, es.length < f → noteR big f (es.flatMap (noteL big wide)) = .ok es := by
  induction es with
  | nil =>
    intro f hf
    obtain ⟨f', rfl⟩ : ∃ f', f = f' + 1 := ⟨f - 1, by simp at hf; omega⟩
    exact noteR_nil big f'
  | cons e r ih =>
    intro f hf
    obtain ⟨f', rfl⟩ : ∃ f', f = f' + 1 := ⟨f - 1, by simp at hf; omega⟩
    obtain ⟨h1, h2, h3⟩ := hs e (List.mem_cons_self ..)
    have hfit : noteFit wide e = true := by rw [noteFit_iff wide e h1 h2]; simpa using h3
    rw [List.flatMap_cons, noteL_eq big wide e hfit]
    simp only [List.append_assoc]
    rw [noteR_cons big f' e.ty e.name e.desc (padZ e.name.length) (padZ e.desc.length) _ h1 h2 h3 (by rw [padZ_mod]) (by rw [padZ_mod])]
    rw [if_pos (by simp [padZ])]
    rw [ih (fun x hx => hs x (List.mem_cons_of_mem _ hx)) f' (by simp at hf; omega)]
end Go.Proofs.YtcfbdnlbgcoicaaDoor

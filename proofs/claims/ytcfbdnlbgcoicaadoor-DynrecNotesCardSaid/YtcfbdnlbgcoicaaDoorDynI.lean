/- Contracts over this translation: the law package's speaks. -/
import Derived.Test.YtcfbdnlbgcoicaaDoorDynH
namespace Go.Proofs.YtcfbdnlbgcoicaaDoor
set_option linter.unusedVariables false
set_option linter.unusedSimpArgs false
open Go.RowKit

def NA : List UInt8 := noteL false false noteA
def DA : List UInt8 := dynL false true []
theorem formOf_0 (w : World) : Calls Tryd.prog 8 #[.int .i64 0] w fun e w' => e = .returned (.agg #[.bool false, .bool false]) ∧ Below w.heap.size w w' := by
  have h := formOf_any 0 w
  rw [form0.1, form0.2.1] at h
  exact h
theorem formOf_2 (w : World) : Calls Tryd.prog 8 #[.int .i64 2] w fun e w' => e = .returned (.agg #[.bool false, .bool true]) ∧ Below w.heap.size w w' := by
  have h := formOf_any 2 w
  rw [form0.2.2.1, form0.2.2.2] at h
  exact h
theorem putNotesA (b c : Nat) (w : World) (h : w.heap[b]? = some (.cells #[.int .u64 5, .string ⟨#[97]⟩, .string ⟨#[]⟩] 34 (0, 0))) :
    Calls Tryd.prog 9 #[.agg #[.bool false, .bool false], .slice (some ⟨b, 0, none⟩) 1 c] w fun e w' => e = .returned (.tuple #[.string ⟨NA.toArray⟩, .bool true]) ∧ Below w.heap.size w w' := by
  have h1 : Rd w (some ⟨b, 0, none⟩) ([noteA].flatMap encN) := .inr ⟨b, 0, rfl, fun j u hj => by rw [Lib.cell_of_heap h, Nat.zero_add]; simpa [encN, noteA] using hj⟩
  have h2 := putNotes_any false false [noteA] (by simp) (by simp [noteA]) (by have := noteA_len; simp only [List.flatMap_cons, List.flatMap_nil, List.append_nil]; omega) (some ⟨b, 0, none⟩) c w h1
  have h3 : ([noteA].all (noteFit false)) = true := by simp [noteA_fit]
  rw [h3] at h2
  have h4 : [noteA].flatMap (noteL false false) = NA := by simp [NA]
  rw [if_pos rfl, h4] at h2
  exact h2
theorem NA_len : NA.length = 16 := noteA_len
theorem DA_len : DA.length = 16 := dyn0.2
theorem notesA (w : World) :
    Calls Tryd.prog 11 #[.agg #[.bool false, .bool false], .string ⟨NA.toArray⟩] w fun e w' => ∃ a c, e = .returned (.tuple #[.slice a 1 c, .int .i64 0]) ∧ Rd w' a (encN noteA) ∧ Below w.heap.size w w' := by
  have h := notes_any false false NA (by rw [NA_len]; decide) w
  have h2 : noteR false (NA.length + 1) NA = .ok [noteA] := by rw [NA_len]; exact noteA_back
  rw [h2] at h
  refine h.mono ?_
  rintro e w' ⟨a, c, rfl, hr, hb⟩
  exact ⟨a, c, rfl, by simpa using hr, hb⟩
theorem putDyn0 (w : World) :
    Calls Tryd.prog 12 #[.agg #[.bool false, .bool true], .slice none 0 0] w fun e w' => e = .returned (.tuple #[.string ⟨DA.toArray⟩, .bool true]) ∧ Below w.heap.size w w' := by
  have h := putDynamic_none false true [] (by simp) (by simp) rfl w (.inl rfl)
  rw [dyn0.1, if_pos rfl] at h
  exact h

set_option maxHeartbeats 4000000 in
theorem speaks_any (w : World) : Calls Tryd.prog 7 #[] w fun e w' => e = .returned (.bool true) ∧ Below w.heap.size w w' := by
  have n1 : NA.length = 16 := NA_len
  have n2 : DA.length = 16 := DA_len
  go_enter Tryd.func7, Tryd.ntmps7
  go_wp2_with (first
    | (go_at_call 8; have hh := h3; refine (formOf_2 _).mono ?_; rintro e w4 ⟨rfl, hb4⟩; have h4 := Lib.hid (h3.out.trans (hb4.mono h3.out.size)); have hr4 := Lib.hid (hr3.out.below hb4); clear hb4)
    | (go_at_call 8; have hh := h1; refine (formOf_0 _).mono ?_; rintro e w2 ⟨rfl, hb2⟩; have h2 := Lib.hid (h1.out.trans (hb2.mono h1.out.size)); clear hb2)
    | (go_at_call 8; refine (formOf_0 _).mono ?_; rintro e w0 ⟨rfl, hb0⟩; have h0 := Lib.hid hb0; clear hb0)
    | (go_at_call 9; refine (putNotesA w0.heap.size _ _ (heap_at _ _ _ rfl)).mono ?_; rintro e w1 ⟨rfl, hb1⟩; have h1 := Lib.hid (h0.out.trans ((((Below.refl _ _).alloc (Nat.le_refl _) _).trans (hb1.mono (by simp))).mono h0.out.size)); clear hb1)
    | (go_at_call 11; refine (notesA _).mono ?_; rintro e w3 ⟨a3, c3, rfl, hrd3, hb3⟩; have h3 := Lib.hid (h2.out.trans (hb3.mono h2.out.size)); have hr3 := Lib.hid hrd3; clear hb3 hrd3)
    | (go_at_call 12; refine (putDyn0 _).mono ?_; rintro e w5 ⟨rfl, hb5⟩; have h5 := Lib.hid (h4.out.trans (hb5.mono h4.out.size)); obtain ⟨b0, o0, rfl, hcl⟩ := (hr4.out.below hb5).at (by simp [encN]); have q1 := hcl 1 (.string ⟨#[97]⟩) rfl; clear hb5 hcl))
  go_outline
  go_ret
  exact ⟨rfl, h5.out⟩
end Go.Proofs.YtcfbdnlbgcoicaaDoor

import Derived.Test.YtckmkhcahnijmaaGreatDoorR4
namespace Go.Proofs.YtckmkhcahnijmaaGreatDoor
open Go.RowKit
set_option linter.unusedVariables false
set_option linter.unusedSimpArgs false

set_option maxRecDepth 100000 in
theorem replace_any (R S c : Nat) (s : ByteArray) (w : World) (h : RP w R S c) (hSR : S < R) (hs : s.size ≤ 65536) :
    Calls Tryz.prog 60 #[.pointer (some ⟨R, 0, none⟩), .string s] w fun e w' => e = .returned (.string (bs (esc s.data.toList))) ∧ Below S w w' := by
  obtain ⟨h0, h1, h3, h4, s0, s1, s2, s3, fr⟩ := h
  have hR := World.block_lt_of_cell? _ _ h3
  simp only at hR
  have hme : ∀ (B : Nat) (w : World), (method 323 147 (.pointer (some ⟨B, 0, none⟩)) "Replace").run Tryz.prog w = .ok (159, .pointer (some ⟨B, 0, none⟩)) w := fun _ _ => by kernel_rfl
  go_enter Tryz.func60, Tryz.ntmps60
  go_wp2_with (go_at_call 71; refine (do_any R S c _ w h0 h1 h3 h4 s0 s1 s2 s3 fr (by omega)).mono ?_; rintro e w2 ⟨rfl, B, hB, k3, hb⟩)
  clear h0 h1 h3 h4 s0 s1 s2 s3 fr
  go_wp2_with (go_at_call 159; refine (brep_any _ _ s _ hB hs).mono ?_; rintro e w3 ⟨rfl, hb3⟩)
  go_ret
  exact ⟨rfl, (hb.mono (by omega)).trans (hb3.mono (by have := hb.size; omega))⟩
theorem escaped_any (s : ByteArray) (w : World) (hs : s.size ≤ 65536) :
    Calls Tryz.prog 47 #[.string s] w fun e w' => e = .returned (.string (bs (esc s.data.toList))) ∧ Below w.heap.size w w' := by
  have hb0 := below_box w (.cells #[.string ⟨#[92]⟩, .string ⟨#[92, 92]⟩, .string ⟨#[47]⟩, .string ⟨#[92, 47]⟩] 9)
  go_enter Tryz.func47, Tryz.ntmps47
  go_wp2_with (go_at_call 59; refine (newrep_any w.heap.size _ ?_ ?_ ?_ ?_).mono ?_)
  · rw [cell_new _ _ _ _ _ rfl]; rfl
  · rw [cell_new _ _ _ _ _ rfl]; rfl
  · rw [cell_new _ _ _ _ _ rfl]; rfl
  · rw [cell_new _ _ _ _ _ rfl]; rfl
  rintro e w2 ⟨c, rfl, hb2, hrp⟩
  have hse : (w.alloc (.cells #[.string ⟨#[92]⟩, .string ⟨#[92, 92]⟩, .string ⟨#[47]⟩, .string ⟨#[92, 47]⟩] 9)).heap.size = w.heap.size + 1 := by simp
  have hsz := hb2.size
  rw [hse] at hrp hsz
  have hb2' := hb2.mono (B' := w.heap.size) (by simp)
  clear hb2
  go_wp2_with (go_at_call 60; refine (replace_any _ _ c s _ hrp (by omega) hs).mono ?_; rintro e w3 ⟨rfl, hb3⟩)
  go_ret
  exact ⟨rfl, (hb0.trans hb2').trans (hb3.mono (by omega))⟩
end Go.Proofs.YtckmkhcahnijmaaGreatDoor

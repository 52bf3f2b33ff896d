/- The walks of the program: strings.ContainsAny at CR LF, ex.ends, filter.Right. -/
import Derived.Test.YtckmkhcahnijmaaGreatDoorP1
import Derived.Test.YtckmkhcahnijmaaGreatDoorO
namespace Go.Proofs.YtckmkhcahnijmaaGreatDoor
open Go.RowKit
set_option linter.unusedVariables false
set_option linter.unusedSimpArgs false

theorem indexAny_noEnd : ∀ l : List UInt8, decide (0 ≤ Lib.indexAny l [13, 10]) = !noEnd l
  | [] => rfl
  | b :: l => by
    have ih := indexAny_noEnd l
    have hg := Lib.indexAny_ge [13, 10] l
    rw [Lib.indexAny]
    cases h : crlfB b
    · have hc : ([13, 10] : List UInt8).contains b = false := by
        show (b == 13 || (b == 10 || false)) = false
        simp only [crlfB, Bool.or_eq_false_iff] at h; rw [h.1, h.2]; rfl
      rw [hc, noEnd_miss h, ← ih]
      simp only [Bool.false_eq_true, if_false]
      split
      · rename_i h1
        have h1 : Lib.indexAny l [13, 10] = -1 := by simpa using h1
        rw [h1]
      · rename_i h1
        have h1 : Lib.indexAny l [13, 10] ≠ -1 := by simpa using h1
        rw [decide_eq_decide]; omega
    · have hc : ([13, 10] : List UInt8).contains b = true := by
        show (b == 13 || (b == 10 || false)) = true
        simp only [crlfB, Bool.or_eq_true] at h; rcases h with h | h <;> rw [h] <;> simp
      rw [hc, noEnd_hit h]; rfl
theorem index70_any (s : ByteArray) (w : World) (hs : s.size ≤ 65536) :
    Calls Tryz.prog 70 #[.string s, .string ⟨#[13, 10]⟩] w fun e w' => ∃ z : Int, e = .returned (.int .i64 z) ∧ (decide (0 ≤ z) = !noEnd s.data.toList) ∧ Below w.heap.size w w' := by
  rcases Nat.lt_or_ge 8 s.size with h | h
  · refine (Tryz.strings_IndexAny_long hv123 s ⟨#[13, 10]⟩ w (by decide) h (by omega) (by decide) (fun j b hj => ?_)).mono fun e w' ⟨he, hw⟩ => ⟨_, he, indexAny_noEnd _, by subst hw; exact below_box2 _ _ _⟩
    match j, hj with
    | 0, hj => simp at hj; subst hj; decide
    | 1, hj => simp at hj; subst hj; decide
    | j + 2, hj => simp at hj
  · exact index70_short s w h
set_option maxHeartbeats 1000000 in
theorem crlf58_any (s : ByteArray) (w : World) (hs : s.size ≤ 65536) :
    Calls Tryz.prog 58 #[.string s, .string ⟨#[13, 10]⟩] w fun e w' => e = .returned (.bool (!noEnd s.data.toList)) ∧ Below w.heap.size w w' := by
  have hi := index70_any s w hs
  generalize hk : (!noEnd s.data.toList) = q at *
  clear hk
  go_enter Tryz.func58, Tryz.ntmps58
  go_wp2_with (go_at_call 70; refine hi.mono ?_; rintro e w2 ⟨z, rfl, hz, hb2⟩; have HZ := Lib.hid hz; clear hz)
  go_ret
  exact ⟨ret_bool HZ.out, hb2⟩
set_option maxHeartbeats 1000000 in
theorem ends_any (s : ByteArray) (w : World) (hs : s.size ≤ 65536) :
    Calls Tryz.prog 43 #[.string s] w fun e w' => e = .returned (.bool (!noEnd s.data.toList)) ∧ Below w.heap.size w w' := by
  have hi := crlf58_any s w hs
  go_enter Tryz.func43, Tryz.ntmps43
  go_wp2_with (go_at_call 58; refine hi.mono ?_; rintro e w2 ⟨rfl, hb2⟩)
  go_ret
  exact ⟨rfl, hb2⟩

set_option maxHeartbeats 2000000 in
theorem tright_any (t : Tst) (w : World) (hs : t.arg.size ≤ 65536) :
    Calls Tryz.prog 42 #[vT t] w fun e w' => e = .returned (.bool (tRight t)) ∧ Below w.heap.size w w' := by
  obtain ⟨col, op, s, nt⟩ := t
  unfold vT
  simp only at hs ⊢
  have hi := fun w => crlf58_any s w hs
  generalize hq : noEnd s.data.toList = q at *
  have HQ := Lib.hid hq; clear hq
  go_enter Tryz.func42, Tryz.ntmps42
  go_wp2_with (go_at_call 58; refine (hi _).mono ?_; rintro e w2 ⟨rfl, hb2⟩; have k1 := keep_cell hb2 (show (w.alloc (.cells #[.int .i64 col, .int .i64 op, .string s, .bool nt] 32)).cell? ⟨w.heap.size, 1, none⟩ = some (.int .i64 op) by simp [go_sem]); have k2 := keep_cell hb2 (show (w.alloc (.cells #[.int .i64 col, .int .i64 op, .string s, .bool nt] 32)).cell? ⟨w.heap.size, 2, none⟩ = some (.string s) by simp [go_sem]); have hbw := keep_below (below_box w _) hb2 (by simp))
  all_goals
    go_ret
    refine ⟨ret_bool ?_, by first | exact hbw | exact below_box _ _⟩
    go_light
    clear hi
    simp only [tRight, HQ.out, toList_L]
    clear HQ
    rw [Bool.eq_iff_iff]
    cases q <;> simp_all <;> omega
end Go.Proofs.YtckmkhcahnijmaaGreatDoor

/- The walk of the program: ex.subst. -/
import Derived.Test.YtckmkhcahnijmaaGreatDoorV2
namespace Go.Proofs.YtckmkhcahnijmaaGreatDoor
open Go.RowKit
set_option linter.unusedVariables false
set_option linter.unusedSimpArgs false

theorem below_set {B : Nat} {a w : World} {b o : Nat} {v : Value} (h : Below B a w) (hb : B ≤ b) : Below B a (w.setCell ⟨b, o, none⟩ v) := h.setCell hb v
set_option maxRecDepth 100000 in
set_option maxHeartbeats 1000000 in
theorem subst_any (s : ByteArray) (whole : Bool) (w : World) (hs : s.size ≤ 65536) :
    Calls Tryz.prog 49 #[.string s, .bool whole] w fun e w' => e = .returned (vL none 0 (pSub s.data.toList whole)) ∧ Below w.heap.size w w' := by
  have hpa := fun W => parts_any s W hs
  generalize hv : vL none 0 (pSub s.data.toList whole) = v
  have HV := Lib.hid hv; clear hv
  cases hp : partsG s.data.toList [] [] with
  | none =>
    have HW : Hid (pSub s.data.toList whole = lW 7) := Lib.hid (by rw [pSub, hp])
    have hpa' : ∀ W, Calls Tryz.prog 62 #[.string s] W fun e w' => e = .returned (.tuple #[.slice none 0 0, .bool false]) ∧ Below W.heap.size W w' := fun W => (hpa W).mono fun e w' ⟨h, hb⟩ => by
      rcases h with ⟨_, h⟩ | ⟨l, v, h1, _⟩
      · exact ⟨h, hb⟩
      · rw [hp] at h1; cases h1
    clear hpa hp
    go_enter Tryz.func49, Tryz.ntmps49
    go_wp2_with (go_at_call 62; refine (hpa' _).mono ?_; rintro e w2 ⟨rfl, hb2⟩; obtain ⟨hc, hf⟩ := bcell hb2)
    refine bodyPost_ret (v := v) ?_ rfl ⟨rfl, ?_⟩
    · rw [← HV.out, HW.out]
      simp [results, Tryz.results49, go_sem, vL, lW, zT, zB, hc, hf]
    · (iterate 12 (refine below_set ?_ (Nat.le_refl _))); exact keep_below (below_box w _) hb2 (by simp)
  | some l =>
    have hpa' : ∀ W, Calls Tryz.prog 62 #[.string s] W fun e w' => ∃ A c, e = .returned (.tuple #[.slice A l.length c, .bool true]) ∧ (w'.ownsRow W.heap.size 9 1 (.slice A l.length c) l.length (vstrs l)) ∧ Below W.heap.size W w' := fun W => (hpa W).mono fun e w' ⟨h, hb⟩ => by
      rcases h with ⟨h1, _⟩ | ⟨l', v, h1, h2, h3⟩
      · rw [hp] at h1; cases h1
      · rw [hp] at h1
        obtain rfl := Option.some.inj h1
        obtain ⟨A, c, rfl⟩ := row_form h3
        exact ⟨A, c, h2, h3, hb⟩
    by_cases h3 : l.length = 3
    · match l, h3, hp, hpa' with
      | [a, b, c], _, hp, hpa' =>
        have HW : Hid (pSub s.data.toList whole = lP whole (c == [103]) (bs a) (bs b)) := Lib.hid (by rw [pSub, hp])
        have hcg : ((bs c).toList == (⟨#[103]⟩ : ByteArray).toList) = (c == [103]) := by rw [toList_L, toList_L, bs_L]
        generalize hce : (c == [103]) = ce at *
        have hpa2 : ∀ W, Calls Tryz.prog 62 #[.string s] W fun e w' => ∃ g cap, e = .returned (.tuple #[.slice (some ⟨g, 0, none⟩) 3 cap, .bool true]) ∧ (w'.cell? ⟨g, 0, none⟩ = some (.string (bs a)) ∧ w'.cell? ⟨g, 1, none⟩ = some (.string (bs b)) ∧ w'.cell? ⟨g, 2, none⟩ = some (.string (bs c))) ∧ Below W.heap.size W w' := fun W => (hpa' W).mono fun e w' ⟨A, cap, h1, h2, h4⟩ => by
          obtain ⟨g, rfl, h0⟩ := row_at h2 0 (by simp)
          have h1' := h2.cellAt 1 (by simp)
          have h2' := h2.cellAt 2 (by simp)
          exact ⟨g, cap, h1, ⟨h0, h1', h2'⟩, h4⟩
        clear hpa hp hpa' hce
        go_enter Tryz.func49, Tryz.ntmps49
        go_wp2_with (go_at_call 62; refine (hpa2 _).mono ?_; rintro e w2 ⟨g, cap, rfl, ⟨h0, h1, h2⟩, hb2⟩; obtain ⟨hc, hf⟩ := bcell hb2)
        refine wp_region_still_tail 12 (by kernel_rfl) (by kernel_rfl) ?_
        simp only [List.take_succ_cons, List.take_zero, List.drop_succ_cons, List.drop_zero]
        repeat still_step
        refine wpStill_nil ?_
        go_wp2
        refine bodyPost_ret (v := v) ?_ rfl ⟨rfl, ?_⟩
        · rw [← HV.out, HW.out]
          simp [results, Tryz.results49, go_sem, vL, lP, zT, zB, hc, hf]
          simpa using hcg
        · refine Below.drew ?_; (iterate 12 (refine below_set ?_ (Nat.le_refl _))); exact keep_below (below_box w _) hb2 (by simp)
    · have HW : Hid (pSub s.data.toList whole = lW 7) := Lib.hid (by
        rw [pSub, hp]
        match l, h3 with
        | [], _ => rfl
        | [_], _ => rfl
        | [_, _], _ => rfl
        | [_, _, _], h3 => exact absurd rfl h3
        | _ :: _ :: _ :: _ :: _, _ => rfl)
      clear hpa hp
      have h3' : ((l.length : Int) != 3) = true := by rw [bne_iff_ne]; omega
      go_enter Tryz.func49, Tryz.ntmps49
      go_wp2_with (go_at_call 62; refine (hpa' _).mono ?_; rintro e w2 ⟨A, c, rfl, _, hb2⟩; obtain ⟨hc, hf⟩ := bcell hb2)
      refine bodyPost_ret (v := v) ?_ rfl ⟨rfl, ?_⟩
      · rw [← HV.out, HW.out]
        simp [results, Tryz.results49, go_sem, vL, lW, zT, zB, hc, hf]
      · (iterate 12 (refine below_set ?_ (Nat.le_refl _))); exact keep_below (below_box w _) hb2 (by simp)
end Go.Proofs.YtckmkhcahnijmaaGreatDoor
